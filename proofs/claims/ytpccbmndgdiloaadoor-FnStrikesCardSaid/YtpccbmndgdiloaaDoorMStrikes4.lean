/- Texts 4 of 4 that the claim leans on: plain laws and the walks' contracts, in order. -/
import Derived.Test.YtpccbmndgdiloaaDoorMStrikes3
import Derived.Shelf.LaysM
import Derived.Shelf.Strconv.Itoa3
import Derived.Test.YtpccbmndgdiloaaDoorProg
import Derived.Deep.RegionHeld3
import Derived.Lib.ItoaNum
import Derived.Lib.AppendIntMem
/- The walks through ideal strikes, both sides. -/
namespace Go.Proofs.YtpccbmndgdiloaaDoor
set_option linter.unusedVariables false
set_option linter.unusedSimpArgs false
open Go.ChangeShapes Go.WideShapes Go.ChangeAt Go.RowKit Go.Deep
theorem spec_l1AtI {b : ByteArray} {k : Nat} {w : World} (hk : k < b.size) (hz : b.size ≤ 16777216) (hlo : 48 ≤ PlainAid.bt b k) :
    Calls Tryd.prog 49 #[.string b, .int .i64 ((k : Int) + 1)] w fun e w' => e = .returned (.int .i64 (PlainAid.bt b k - 48)) ∧ w = w' := by
  have hbb := PlainAid.get_bt b
  have hn1 := PlainAid.bt_le b k
  go_in
  go_wp2
  go_ret
  exact ⟨rfl, rfl⟩
set_option maxHeartbeats 1000000 in
set_option maxRecDepth 100000 in
theorem impl_IdealStrikes {A : Option Addr} {n c : Nat} {x y z : Int} {l : List ByteArray} {w : World} (hn : l.length = n) (h : Strs w A l) (hz : n ≤ 1048576) (hs : ∀ s ∈ l, s.size ≤ 16777216) :
    Calls Tryd.prog 6 #[.agg #[.int .i64 x, .int .i64 y, .int .i64 z], .slice A n c] w fun e w' => ∃ A' c', e = .returned (.tuple #[.slice A' (idlR x y z l).length c', .bool (idlOk x y z l)]) ∧
      Owned strikeE 2 41 w' w.heap.size A' (idlR x y z l).length c' (idlR x y z l) ∧ (idlR x y z l).length ≤ 16777216 ∧ Below w.heap.size w w' := by
  subst hn
  have E : Hid (idlOk x y z l = (goodBeatB x y z && (goodRows l && goodStrikes (idl x y z l l.length)))) := rfl
  have b0 : Below w.heap.size w (w.alloc (.cells #[.int .i64 x, .int .i64 y, .int .i64 z] 25)) := by (repeat' (first | (with_reducible exact Below.refl _ _) | (with_reducible assumption) | (with_reducible refine below_drewN ?_ _) | (with_reducible refine Below.drew ?_) | (with_reducible refine below_alloc ?_ _) | (with_reducible refine Below.alloc ?_ ?_ _) | (with_reducible refine Below.setCell ?_ ?_ _) | (with_reducible refine below_go ?_ (by with_reducible assumption)) | (with_reducible refine below_then (by with_reducible assumption) ?_ ?_) | go_size))
  have K0 := Blk.at_ w 25 [.int .i64 x, .int .i64 y, .int .i64 z] (b := w.heap.size) rfl
  rcases h1 : goodBeatB x y z
  · have e0 : idlOk x y z l = false := by rw [E.out, h1]; rfl
    rw [idlR_f e0, e0]
    clear e0
    go_in
    go_wp2_with (first | (go_at_call 9; refine (impl_GoodBeat _ _ _ _).mono ?_; rintro e w1 ⟨rfl, hb1⟩; rw [h1]))
    go_ret2
    exact ⟨none, 0, rfl, Owned.nil strikeE_len _ _ _, by decide, below_go b0 hb1⟩
  rcases h2 : goodRows l
  · have e0 : idlOk x y z l = false := by rw [E.out, h1, h2]; rfl
    rw [idlR_f e0, e0]
    clear e0
    go_in
    go_wp2_with (first | (go_at_call 9; refine (impl_GoodBeat _ _ _ _).mono ?_; rintro e w1 ⟨rfl, hb1⟩; rw [h1]) | (go_at_call 25; refine (impl_GoodRows rfl ((h.up b0).up hb1) (by omega) hs).mono ?_; rintro e w' ⟨rfl, rfl⟩; rw [h2]))
    go_ret2
    exact ⟨none, 0, rfl, Owned.nil strikeE_len _ _ _, by decide, below_go b0 hb1⟩
  obtain ⟨hx, hy, hzz⟩ := goodBeat_t h1
  have hl8 := goodRows_len h2
  have HGR := Lib.hid (goodRows_mem h2)
  have HIL := Lib.hid (fun k hk => idl_len (x := x) (y := y) (z := z) (fun s hs' => (goodRow_n (goodRows_mem h2 s hs')).2) k hk)
  go_in
  go_wp2_with (first | (go_at_call 9; refine (impl_GoodBeat _ _ _ _).mono ?_; rintro e w2 ⟨rfl, hb1⟩; rw [h1]) | (go_at_call 25; refine (impl_GoodRows rfl ((h.up b0).up hb1) (by omega) hs).mono ?_; rintro e w' ⟨rfl, rfl⟩; rw [h2]))
  have hbA : Below w.heap.size w w2 := below_go b0 hb1
  have hsA : w.heap.size < w2.heap.size := by have := hb1.size; simp at this; omega
  have HK := Lib.hid (K0.up hb1)
  clear K0 b0 hb1 hs
  go_loopw [6, 21] (fun v i wr => ∃ (k : Nat) (A' : Option Addr) (N c' : Nat), k ≤ l.length ∧ i = .int .i64 k ∧ v = .slice A' N c' ∧ Owned strikeE 2 41 wr w2.heap.size A' N c' (idl x y z l k) ∧ Below w2.heap.size w2 wr) (fun _ i _ => l.length - (intOf i).toNat)
  case atStart => exact ⟨0, _, _, _, Nat.zero_le _, rfl, rfl, Owned.empty strikeE_len _ _ (Nat.le_refl _), by (repeat' (first | (with_reducible exact Below.refl _ _) | (with_reducible assumption) | (with_reducible refine below_drewN ?_ _) | (with_reducible refine Below.drew ?_) | (with_reducible refine below_alloc ?_ _) | (with_reducible refine Below.alloc ?_ ?_ _) | (with_reducible refine Below.setCell ?_ ?_ _) | (with_reducible refine below_go ?_ (by with_reducible assumption)) | (with_reducible refine below_then (by with_reducible assumption) ?_ ?_) | go_size))⟩
  case round =>
    obtain ⟨k, A', N, c', hk, rfl, rfl, ho, hb⟩ := hrel
    rename World => wo
    have hbw := hbA.trans (hb.mono (by omega))
    have hIL := HIL.out k hk
    have hoN := ho.len
    rw [hoN] at hIL
    by_cases hlt : k < l.length
    · obtain ⟨b1, o1, r, rfl, hbb1, hr, hcr⟩ := (h.below hbw (Nat.le_refl _)).at_str hlt
      have hgr := HGR.out r (List.mem_of_getElem? hr)
      have hr8 := goodRow_n hgr
      have IS := Lib.hid (idl_succ (x := x) (y := y) (z := z) hr)
      have HO := Lib.hid ho
      have hrz := hr8.2
      have hbt := PlainAid.get_bt r
      clear hr ho
      go_wp2
      go_loopw [6, 28] (fun v i wr => ∃ (q : Nat) (A' : Option Addr) (N' c' : Nat), q ≤ r.size ∧ i = .int .i64 (q : Int) ∧ v = .slice A' N' c' ∧ N' ≤ N + q ∧ Owned strikeE 2 41 wr w2.heap.size A' N' c' (idl x y z l k ++ rowStr x y z r k q) ∧ Below w2.heap.size w2 wr) (fun _ i _ => r.size - (intOf i).toNat)
      case atStart => exact ⟨0, A', N, c', Nat.zero_le _, rfl, rfl, Nat.le_refl _, by simpa [rowStr] using HO.out, hb⟩
      case round =>
        obtain ⟨q, A2, N2, c2, hq, rfl, rfl, hN2, ho2, hb2⟩ := hrel
        rename World => wi
        by_cases hqt : q < r.size
        · have hdq := goodRow_dig hgr hqt
          have hbq : PlainAid.bt r q = dg r q + 48 := by simp [dg]
          have RS := Lib.hid (rowStr_succ x y z r k q)
          have HO2 := Lib.hid ho2
          have hsz2 := hb2.size
          have KB := HK.out.below hb2 hsA
          have k0 := KB.cell 0; have k1 := KB.cell 1; have k2 := KB.cell 2
          simp only [List.getElem?_cons_zero, List.getElem?_cons_succ] at k0 k1 k2
          have bb := blowAtZ_bd (r := (k : Int)) (p := (q : Int) + 1) hx hy hzz (n := (r.size : Int)) (by omega) (by omega) (by omega)
          obtain ⟨bz, hbz⟩ : ∃ u, u = blowAtZ x y z r.size k ((q : Int) + 1) := ⟨_, rfl⟩
          have HBZ := Lib.hid hbz
          rw [← hbz] at bb
          clear hbz ho2 KB
          have carry : Hid (∀ u : World, Below wi.heap.size wi u → u.cell? ⟨w.heap.size, 0, none⟩ = some (.int .i64 x) ∧ u.cell? ⟨w.heap.size, 1, none⟩ = some (.int .i64 y) ∧ u.cell? ⟨w.heap.size, 2, none⟩ = some (.int .i64 z)) := Lib.hid (fun u hu =>
            have q : ∀ o : Nat, u.cell? ⟨w.heap.size, o, none⟩ = wi.cell? ⟨w.heap.size, o, none⟩ := fun o => hu.cell (p := ⟨w.heap.size, o, none⟩) (by show w.heap.size < wi.heap.size; omega)
            ⟨(q 0).trans k0, (q 1).trans k1, (q 2).trans k2⟩)
          have far : Hid (∀ v u : World, Below wi.heap.size wi v → v.grownBy u (Value.slice A2 N2 c2).ownBlock → u.cell? ⟨w.heap.size, 0, none⟩ = some (.int .i64 x) ∧ u.cell? ⟨w.heap.size, 1, none⟩ = some (.int .i64 y) ∧ u.cell? ⟨w.heap.size, 2, none⟩ = some (.int .i64 z)) := Lib.hid (fun v u hv hg => by
            have hvs := hv.size
            have f1 : ∀ o : Nat, u.cell? ⟨w.heap.size, o, none⟩ = v.cell? ⟨w.heap.size, o, none⟩ := fun o => hg.cell_far _ (by show w.heap.size < v.heap.size; omega) (fun e => by have := HO2.out.blk e.symm; dsimp only at this; omega)
            rw [f1, f1, f1]
            exact carry.out v hv)
          go_wp2
          have hqI : (q : Int) < (r.size : Int) := by omega
          have hw1 := wrap_bt r q
          have gu : IntKind.u8.wrap (dg r q) = dg r q := IntWalk.u8_in _ (by omega)
          have gi : IntKind.i64.wrap (dg r q) = dg r q := wrap_id (by omega)
          have gq : IntKind.i64.wrap ((q : Int) + 1) = (q : Int) + 1 := wrap_id (by omega)
          have gs : dg r q + 48 - 48 = dg r q := by omega
          go_region_held3 (fun u => u.cell? ⟨w.heap.size, 0, none⟩ = some (.int .i64 x) ∧ u.cell? ⟨w.heap.size, 1, none⟩ = some (.int .i64 y) ∧ u.cell? ⟨w.heap.size, 2, none⟩ = some (.int .i64 z)) (first | exact far.out _ _ (hB2.alloc hB2.size _) hg3 | exact carry.out _ (hB2.alloc hB2.size _) | exact carry.out _ hB2 | exact carry.out _ (by (repeat' (first | (with_reducible exact Below.refl _ _) | (with_reducible assumption) | (with_reducible refine below_drewN ?_ _) | (with_reducible refine Below.drew ?_) | (with_reducible refine below_alloc ?_ _) | (with_reducible refine Below.alloc ?_ ?_ _) | (with_reducible refine Below.setCell ?_ ?_ _) | (with_reducible refine below_go ?_ (by with_reducible assumption)) | (with_reducible refine below_then (by with_reducible assumption) ?_ ?_) | go_size)))) (first | (go_at_call 26; refine (impl_blowAt _ _ _ _ _ _ _ hx hy hzz (by omega) (by omega) (by omega)).mono ?_; rintro e w3 ⟨rfl, hbd⟩; rw [← HBZ.out]; have hB2 := below_of_drew hbd) | ((refine step_append_rec Tryd.elStrike (by rfl) _ _ (by rfl) (by rfl) ((HO2.out.up hB2).alloc _) (dg r q, bz) (by rfl) (Box.at_ _ [.int .i64 (dg r q), .int .i64 bz] _ (by rfl)) (strikeE_one _) (by omega) (by decide) (by have := hB2.size; simp; omega) ?_; intro A3 c3 w4 ho3 hg3 hb3)))
          all_goals
            have hfin := (hb2.trans ((hB2.alloc hB2.size _).mono (by omega))).trans hb3
            clear far carry k0 k1 k2
            go_wp2
            go_roundw
            case rel =>
              refine ⟨q + 1, A3, N2 + 1, c3, by omega, by go_num, by go_num, by omega, ?_, hfin⟩
              rw [RS.out, ← List.append_assoc, ← HBZ.out]; exact ho3
            case measure => simp [intOf]; omega
        · obtain rfl : q = r.size := by omega
          go_wp2
          go_roundw
          case rel => exact ⟨k + 1, A2, N2, c2, by omega, by go_num, rfl, by rw [IS.out]; exact ho2, hb2⟩
          case measure => simp [intOf]; omega
    · obtain rfl : k = l.length := by omega
      rcases h3 : goodStrikes (idl x y z l l.length)
      · have e0 := Lib.hid (show idlOk x y z l = false by rw [E.out, h1, h2, h3]; rfl)
        go_wp2_with (first | (go_at_call 12; refine (impl_GoodStrikes hoN ho.recs (by omega)).mono ?_; rintro e w3 ⟨rfl, hb3⟩; rw [h3]))
        go_ret2
        rw [idlR_f e0.out, e0.out]
        exact ⟨none, 0, rfl, Owned.nil strikeE_len _ _ _, by decide, below_go hbw hb3⟩
      · have e0 := Lib.hid (show idlOk x y z l = true by rw [E.out, h1, h2, h3]; rfl)
        go_wp2_with (first | (go_at_call 12; refine (impl_GoodStrikes hoN ho.recs (by omega)).mono ?_; rintro e w3 ⟨rfl, hb3⟩; rw [h3]))
        go_ret2
        rw [idlR_t e0.out, e0.out, hoN]
        exact ⟨_, _, rfl, (ho.up hb3).base_le (by omega), by omega, below_go hbw hb3⟩
set_option maxHeartbeats 1000000 in
set_option maxRecDepth 100000 in
theorem spec_l21Ideal {A : Option Addr} {n c : Nat} {x y z : Int} {l : List ByteArray} {w : World} (hn : l.length = n) (h : Strs w A l) (h1 : goodBeatB x y z = true) (h2 : goodRows l = true) :
    Calls Tryd.prog 30 #[.agg #[.int .i64 x, .int .i64 y, .int .i64 z], .slice A n c] w fun e w' => ∃ A' c', e = .returned (.slice A' (idl x y z l l.length).length c') ∧
      Owned strikeE 2 41 w' w.heap.size A' (idl x y z l l.length).length c' (idl x y z l l.length) ∧ (idl x y z l l.length).length ≤ 6400 ∧ Below w.heap.size w w' := by
  subst hn
  obtain ⟨hx, hy, hzz⟩ := goodBeat_t h1
  have hl8 := goodRows_len h2
  have HGR := Lib.hid (goodRows_mem h2)
  have HIL := Lib.hid (fun k hk => idl_len (x := x) (y := y) (z := z) (fun s hs' => (goodRow_n (goodRows_mem h2 s hs')).2) k hk)
  have hbA : Below w.heap.size w (w.alloc (.cells #[.int .i64 x, .int .i64 y, .int .i64 z] 25)) := by (repeat' (first | (with_reducible exact Below.refl _ _) | (with_reducible assumption) | (with_reducible refine below_drewN ?_ _) | (with_reducible refine Below.drew ?_) | (with_reducible refine below_alloc ?_ _) | (with_reducible refine Below.alloc ?_ ?_ _) | (with_reducible refine Below.setCell ?_ ?_ _) | (with_reducible refine below_go ?_ (by with_reducible assumption)) | (with_reducible refine below_then (by with_reducible assumption) ?_ ?_) | go_size))
  have HK := Lib.hid (Blk.at_ w 25 [.int .i64 x, .int .i64 y, .int .i64 z] (b := w.heap.size) rfl)
  have hsA : w.heap.size < (w.alloc (.cells #[.int .i64 x, .int .i64 y, .int .i64 z] 25)).heap.size := by simp
  go_in
  go_wp2
  obtain ⟨w2, hw2⟩ : ∃ u, u = w.alloc (.cells #[.int .i64 x, .int .i64 y, .int .i64 z] 25) := ⟨_, rfl⟩
  rw [← hw2] at hbA HK hsA ⊢
  clear hw2
  go_loopw [5, 11] (fun v i wr => ∃ (k : Nat) (A' : Option Addr) (N c' : Nat), k ≤ l.length ∧ i = .int .i64 k ∧ v = .slice A' N c' ∧ Owned strikeE 2 41 wr w2.heap.size A' N c' (idl x y z l k) ∧ Below w2.heap.size w2 wr) (fun _ i _ => l.length - (intOf i).toNat)
  case atStart => exact ⟨0, _, _, _, Nat.zero_le _, rfl, rfl, Owned.nil strikeE_len _ _ _, by (repeat' (first | (with_reducible exact Below.refl _ _) | (with_reducible assumption) | (with_reducible refine below_drewN ?_ _) | (with_reducible refine Below.drew ?_) | (with_reducible refine below_alloc ?_ _) | (with_reducible refine Below.alloc ?_ ?_ _) | (with_reducible refine Below.setCell ?_ ?_ _) | (with_reducible refine below_go ?_ (by with_reducible assumption)) | (with_reducible refine below_then (by with_reducible assumption) ?_ ?_) | go_size))⟩
  case round =>
    obtain ⟨k, A', N, c', hk, rfl, rfl, ho, hb⟩ := hrel
    rename World => wo
    have hbw := hbA.trans (hb.mono (by omega))
    have hIL := HIL.out k hk
    have hoN := ho.len
    rw [hoN] at hIL
    by_cases hlt : k < l.length
    · obtain ⟨b1, o1, r, rfl, hbb1, hr, hcr⟩ := (h.below hbw (Nat.le_refl _)).at_str hlt
      have hgr := HGR.out r (List.mem_of_getElem? hr)
      have hr8 := goodRow_n hgr
      have IS := Lib.hid (idl_succ (x := x) (y := y) (z := z) hr)
      have HO := Lib.hid ho
      have hrz := hr8.2
      have hbt := PlainAid.get_bt r
      clear hr ho
      go_wp2
      go_loopw [5, 8] (fun v i wr => ∃ (q : Nat) (A' : Option Addr) (N' c' : Nat), q ≤ r.size ∧ i = .int .i64 ((q : Int) + 1) ∧ v = .slice A' N' c' ∧ N' ≤ N + q ∧ Owned strikeE 2 41 wr w2.heap.size A' N' c' (idl x y z l k ++ rowStr x y z r k q) ∧ Below w2.heap.size w2 wr) (fun _ i _ => (r.size + 1) - (intOf i).toNat)
      case atStart => exact ⟨0, A', N, c', Nat.zero_le _, by go_num, rfl, Nat.le_refl _, by simpa [rowStr] using HO.out, hb⟩
      case round =>
        obtain ⟨q, A2, N2, c2, hq, rfl, rfl, hN2, ho2, hb2⟩ := hrel
        rename World => wi
        by_cases hqt : q < r.size
        · have hdq := goodRow_dig hgr hqt
          have hbq : PlainAid.bt r q = dg r q + 48 := by simp [dg]
          have RS := Lib.hid (rowStr_succ x y z r k q)
          have HO2 := Lib.hid ho2
          have hsz2 := hb2.size
          have KB := HK.out.below hb2 hsA
          have k0 := KB.cell 0; have k1 := KB.cell 1; have k2 := KB.cell 2
          simp only [List.getElem?_cons_zero, List.getElem?_cons_succ] at k0 k1 k2
          have bb := blowAtZ_bd (r := (k : Int)) (p := (q : Int) + 1) hx hy hzz (n := (r.size : Int)) (by omega) (by omega) (by omega)
          obtain ⟨bz, hbz⟩ : ∃ u, u = blowAtZ x y z r.size k ((q : Int) + 1) := ⟨_, rfl⟩
          have HBZ := Lib.hid hbz
          rw [← hbz] at bb
          clear hbz ho2 KB
          have carry : Hid (∀ u : World, Below wi.heap.size wi u → u.cell? ⟨w.heap.size, 0, none⟩ = some (.int .i64 x) ∧ u.cell? ⟨w.heap.size, 1, none⟩ = some (.int .i64 y) ∧ u.cell? ⟨w.heap.size, 2, none⟩ = some (.int .i64 z)) := Lib.hid (fun u hu =>
            have q : ∀ o : Nat, u.cell? ⟨w.heap.size, o, none⟩ = wi.cell? ⟨w.heap.size, o, none⟩ := fun o => hu.cell (p := ⟨w.heap.size, o, none⟩) (by show w.heap.size < wi.heap.size; omega)
            ⟨(q 0).trans k0, (q 1).trans k1, (q 2).trans k2⟩)
          have far : Hid (∀ v u : World, Below wi.heap.size wi v → v.grownBy u (Value.slice A2 N2 c2).ownBlock → u.cell? ⟨w.heap.size, 0, none⟩ = some (.int .i64 x) ∧ u.cell? ⟨w.heap.size, 1, none⟩ = some (.int .i64 y) ∧ u.cell? ⟨w.heap.size, 2, none⟩ = some (.int .i64 z)) := Lib.hid (fun v u hv hg => by
            have hvs := hv.size
            have f1 : ∀ o : Nat, u.cell? ⟨w.heap.size, o, none⟩ = v.cell? ⟨w.heap.size, o, none⟩ := fun o => hg.cell_far _ (by show w.heap.size < v.heap.size; omega) (fun e => by have := HO2.out.blk e.symm; dsimp only at this; omega)
            rw [f1, f1, f1]
            exact carry.out v hv)
          go_wp2
          have hqI : (q : Int) < (r.size : Int) := by omega
          have hw1 := wrap_bt r q
          have gu : IntKind.u8.wrap (dg r q) = dg r q := IntWalk.u8_in _ (by omega)
          have gi : IntKind.i64.wrap (dg r q) = dg r q := wrap_id (by omega)
          have gq : IntKind.i64.wrap ((q : Int) + 1) = (q : Int) + 1 := wrap_id (by omega)
          have gs : dg r q + 48 - 48 = dg r q := by omega
          go_region_held3 (fun u => u.cell? ⟨w.heap.size, 0, none⟩ = some (.int .i64 x) ∧ u.cell? ⟨w.heap.size, 1, none⟩ = some (.int .i64 y) ∧ u.cell? ⟨w.heap.size, 2, none⟩ = some (.int .i64 z)) (first | exact far.out _ _ (hB2.alloc hB2.size _) hg3 | exact carry.out _ (hB2.alloc hB2.size _) | exact carry.out _ hB2 | exact carry.out _ (by (repeat' (first | (with_reducible exact Below.refl _ _) | (with_reducible assumption) | (with_reducible refine below_drewN ?_ _) | (with_reducible refine Below.drew ?_) | (with_reducible refine below_alloc ?_ _) | (with_reducible refine Below.alloc ?_ ?_ _) | (with_reducible refine Below.setCell ?_ ?_ _) | (with_reducible refine below_go ?_ (by with_reducible assumption)) | (with_reducible refine below_then (by with_reducible assumption) ?_ ?_) | go_size)))) (first | (go_at_call 49; refine (spec_l1AtI hqt (by omega) (by omega)).mono ?_; rw [hbq, gs]; rintro e w' ⟨rfl, rfl⟩) | (go_at_call 46; refine (spec_l21Blow _ _ _ _ _ _ _ hx hy hzz (by omega) (by omega) (by omega)).mono ?_; rintro e w3 ⟨rfl, hbd⟩; rw [← HBZ.out]; have hB2 := below_of_drew hbd) | ((refine step_append_rec Tryd.elStrike (by rfl) _ _ (by rfl) (by rfl) ((HO2.out.up hB2).alloc _) (dg r q, bz) (by rfl) (Box.at_ _ [.int .i64 (dg r q), .int .i64 bz] _ (by rfl)) (strikeE_one _) (by omega) (by decide) (by have := hB2.size; simp; omega) ?_; intro A3 c3 w4 ho3 hg3 hb3)))
          all_goals
            have hfin := (hb2.trans ((hB2.alloc hB2.size _).mono (by omega))).trans hb3
            clear far carry k0 k1 k2
            go_wp2
            go_roundw
            case rel =>
              refine ⟨q + 1, A3, N2 + 1, c3, by omega, by go_num, by go_num, by omega, ?_, hfin⟩
              rw [RS.out, ← List.append_assoc, ← HBZ.out]; exact ho3
            case measure => simp [intOf]; omega
        · obtain rfl : q = r.size := by omega
          go_wp2
          go_roundw
          case rel => exact ⟨k + 1, A2, N2, c2, by omega, by go_num, rfl, by rw [IS.out]; exact ho2, hb2⟩
          case measure => simp [intOf]; omega
    · obtain rfl : k = l.length := by omega
      obtain rfl := hoN
      go_wp2
      go_ret
      exact ⟨_, _, rfl, ho.base_le (by omega), by omega, hbw⟩
theorem spec_IdealStrikes {A : Option Addr} {n c : Nat} {x y z : Int} {l : List ByteArray} {w : World} (hn : l.length = n) (h : Strs w A l) (hz : n ≤ 1048576) (hs : ∀ s ∈ l, s.size ≤ 16777216) :
    Calls Tryd.prog 7 #[.agg #[.int .i64 x, .int .i64 y, .int .i64 z], .slice A n c] w fun e w' => ∃ A' c', e = .returned (.tuple #[.slice A' (idlR x y z l).length c', .bool (idlOk x y z l)]) ∧
      Owned strikeE 2 41 w' w.heap.size A' (idlR x y z l).length c' (idlR x y z l) ∧ (idlR x y z l).length ≤ 16777216 ∧ Below w.heap.size w w' := by
  subst hn
  have E : Hid (idlOk x y z l = (goodBeatB x y z && (goodRows l && goodStrikes (idl x y z l l.length)))) := rfl
  have b0 : Below w.heap.size w (w.alloc (.cells #[.int .i64 x, .int .i64 y, .int .i64 z] 25)) := by (repeat' (first | (with_reducible exact Below.refl _ _) | (with_reducible assumption) | (with_reducible refine below_drewN ?_ _) | (with_reducible refine Below.drew ?_) | (with_reducible refine below_alloc ?_ _) | (with_reducible refine Below.alloc ?_ ?_ _) | (with_reducible refine Below.setCell ?_ ?_ _) | (with_reducible refine below_go ?_ (by with_reducible assumption)) | (with_reducible refine below_then (by with_reducible assumption) ?_ ?_) | go_size))
  have K0 := Blk.at_ w 25 [.int .i64 x, .int .i64 y, .int .i64 z] (b := w.heap.size) rfl
  rcases h1 : goodBeatB x y z
  · have e0 : idlOk x y z l = false := by rw [E.out, h1]; rfl
    rw [idlR_f e0, e0]
    clear e0
    go_in
    go_wp2_with (first | (go_at_call 27; refine (spec_l21Beat _ _ _ _).mono ?_; rintro e w1 ⟨rfl, hb1⟩; rw [h1]))
    go_ret2
    exact ⟨none, 0, rfl, Owned.nil strikeE_len _ _ _, by decide, below_go b0 hb1⟩
  rcases h2 : goodRows l
  · have e0 : idlOk x y z l = false := by rw [E.out, h1, h2]; rfl
    rw [idlR_f e0, e0]
    clear e0
    go_in
    go_wp2_with (first | (go_at_call 27; refine (spec_l21Beat _ _ _ _).mono ?_; rintro e w1 ⟨rfl, hb1⟩; rw [h1]) | (go_at_call 28; refine (spec_l6Rows rfl ((h.up b0).up hb1) (by omega) hs).mono ?_; rintro e w2 ⟨rfl, hb2⟩; rw [h2]))
    go_ret2
    exact ⟨none, 0, rfl, Owned.nil strikeE_len _ _ _, by decide, below_go (below_go b0 hb1) hb2⟩
  have ARMS : True := trivial
  rcases h3 : goodStrikes (idl x y z l l.length)
  · have e0 : idlOk x y z l = false := by rw [E.out, h1, h2, h3]; rfl
    rw [idlR_f e0, e0]
    clear e0
    go_in
    go_wp2_with (first | (go_at_call 27; refine (spec_l21Beat _ _ _ _).mono ?_; rintro e w1 ⟨rfl, hb1⟩; rw [h1]) | (go_at_call 28; refine (spec_l6Rows rfl ((h.up b0).up hb1) (by omega) hs).mono ?_; rintro e w2 ⟨rfl, hb2⟩; rw [h2]; have KB := (K0.up hb1).up hb2; have c0 := KB.cell 0; have c1 := KB.cell 1; have c2 := KB.cell 2; simp only [List.getElem?_cons_zero, List.getElem?_cons_succ] at c0 c1 c2; clear KB) | (go_at_call 30; refine (spec_l21Ideal rfl (((h.up b0).up hb1).up hb2) h1 h2).mono ?_; rintro e w3 ⟨A3, c3, rfl, ho3, hl3, hb3⟩) | (go_at_call 29; refine (spec_l21Good rfl ho3.recs (by omega)).mono ?_; rintro e w4 ⟨rfl, hb4⟩; rw [h3]))
    go_ret2
    exact ⟨none, 0, rfl, Owned.nil strikeE_len _ _ _, by decide, below_go (below_go (below_go (below_go b0 hb1) hb2) hb3) hb4⟩
  · have e0 : idlOk x y z l = true := by rw [E.out, h1, h2, h3]; rfl
    rw [idlR_t e0, e0]
    clear e0
    go_in
    go_wp2_with fail
    refine (spec_l21Beat _ _ _ _).mono ?_; rintro e w1 ⟨rfl, hb1⟩; rw [h1]
    go_wp2_with fail
    refine (spec_l6Rows rfl ((h.up b0).up hb1) (by omega) hs).mono ?_; rintro e w2 ⟨rfl, hb2⟩; rw [h2]
    have KB := (K0.up hb1).up hb2
    have c0 := KB.cell 0; have c1 := KB.cell 1; have c2 := KB.cell 2
    simp only [List.getElem?_cons_zero, List.getElem?_cons_succ] at c0 c1 c2
    go_wp2_with fail
    refine (spec_l21Ideal rfl (((h.up b0).up hb1).up hb2) h1 h2).mono ?_; rintro e w3 ⟨A3, c3, rfl, ho3, hl3, hb3⟩
    clear c0 c1 c2
    go_wp2_with fail
    refine (spec_l21Good rfl ho3.recs (by omega)).mono ?_; rintro e w4 ⟨rfl, hb4⟩; rw [h3]
    have KC := (KB.up hb3).up hb4
    have c0 := KC.cell 0; have c1 := KC.cell 1; have c2 := KC.cell 2
    simp only [List.getElem?_cons_zero, List.getElem?_cons_succ] at c0 c1 c2
    have hbX := below_go (below_go (below_go (below_go b0 hb1) hb2) hb3) hb4
    go_wp2_with fail
    refine (spec_l21Ideal rfl (h.below hbX (Nat.le_refl _)) h1 h2).mono ?_; rintro e w5 ⟨A5, c5, rfl, ho5, hl5, hb5⟩
    go_wp2
    go_ret2
    exact ⟨A5, c5, rfl, ho5.base_le hbX.size, by omega, below_go hbX hb5⟩
end Go.Proofs.YtpccbmndgdiloaaDoor
/- l21Blow and l21Ideal of the reference for the beats and rows that draws make. -/
namespace Go.Proofs.YtpccbmndgdiloaaDoor
set_option linter.unusedVariables false
set_option linter.unusedSimpArgs false
open Go.ChangeShapes Go.WideShapes Go.ChangeAt Go.RowKit Go.Deep
theorem blowAtZ_bdL {x y z n r p : Int} (hx : -1 ≤ x ∧ x ≤ 1000001) (hy : 0 ≤ y ∧ y ≤ 2001) (hz : 0 ≤ z ∧ z ≤ 2000) (hn : 1 ≤ n ∧ n ≤ 8) (hr : 0 ≤ r ∧ r ≤ 800) (hp : 1 ≤ p ∧ p ≤ 8) : -1 ≤ blowAtZ x y z n r p ∧ blowAtZ x y z n r p ≤ 100000000 := by
  obtain ⟨nr, hnr⟩ : ∃ t, t = n * r := ⟨_, rfl⟩
  have hnr0 : 0 ≤ nr := by rw [hnr]; exact Int.mul_nonneg (by omega) hr.1
  have hnr1 : nr ≤ 6400 := by rw [hnr]; exact Int.le_trans (Int.mul_le_mul hn.2 hr.2 hr.1 (by omega)) (by decide)
  have hq0 : 0 ≤ y * (nr + p - 1) := Int.mul_nonneg (by omega) (by omega)
  have hq1 : y * (nr + p - 1) ≤ 41000000 := Int.le_trans (Int.mul_le_mul hy.2 (show nr + p - 1 ≤ 20000 by omega) (by omega) (by omega)) (by decide)
  have hs0 : 0 ≤ z * (r / 2) := Int.mul_nonneg (by omega) (by omega)
  have hs1 : z * (r / 2) ≤ 2000000 := Int.le_trans (Int.mul_le_mul hz.2 (show r / 2 ≤ 1000 by omega) (by omega) (by omega)) (by decide)
  rw [blowAtZ, ← hnr]
  omega
theorem idl_bdL {x y z : Int} {l : List ByteArray} (hx : -1 ≤ x ∧ x ≤ 1000001) (hy : 0 ≤ y ∧ y ≤ 2001) (hz : 0 ≤ z ∧ z ≤ 2000) (hl8 : l.length ≤ 800) (hdg : ∀ s ∈ l, digS s) : ∀ k, k ≤ l.length → ∀ s ∈ idl x y z l k, (0 ≤ s.1 ∧ s.1 ≤ 9) ∧ -1 ≤ s.2 ∧ s.2 ≤ 100000000
  | 0, _, s, hs => by rw [idl_zero] at hs; cases hs
  | k + 1, hk, s, hs => by
    obtain ⟨r, hr⟩ := some_of_lt (l := l) (k := k) (by omega)
    rw [idl_succ hr] at hs
    rcases List.mem_append.1 hs with hs | hs
    · exact idl_bdL hx hy hz hl8 hdg k (by omega) s hs
    · have hd := hdg r (List.mem_of_getElem? hr)
      obtain ⟨q, hq, rfl⟩ := List.mem_map.1 hs
      have hq := List.mem_range.1 hq
      have h1 := hd.2 q hq
      have h0 := hd.1
      have h2 := blowAtZ_bdL (n := (r.size : Int)) (r := (k : Int)) (p := (q : Int) + 1) hx hy hz (by omega) (by omega) (by omega)
      exact ⟨by simp only [dg]; omega, h2⟩
theorem spec_l21BlowL (x y z n r p : Int) (w : World) (hx : -1 ≤ x ∧ x ≤ 1000001) (hy : 0 ≤ y ∧ y ≤ 2001) (hz : 0 ≤ z ∧ z ≤ 2000) (hn : 1 ≤ n ∧ n ≤ 8) (hr : 0 ≤ r ∧ r ≤ 2000) (hp : 1 ≤ p ∧ p ≤ 8) :
    Calls Tryd.prog 46 #[.agg #[.int .i64 x, .int .i64 y, .int .i64 z], .int .i64 n, .int .i64 r, .int .i64 p] w fun e w' => e = .returned (.int .i64 (blowAtZ x y z n r p)) ∧ Below w.heap.size w w' := by
  obtain ⟨nr, hnr⟩ : ∃ t, t = n * r := ⟨_, rfl⟩
  have hnr0 : 0 ≤ nr := by rw [hnr]; exact Int.mul_nonneg (by omega) hr.1
  have hnr1 : nr ≤ 16000 := by rw [hnr]; exact Int.le_trans (Int.mul_le_mul hn.2 hr.2 hr.1 (by omega)) (by decide)
  obtain ⟨q, hq⟩ : ∃ t, t = y * (nr + p - 1) := ⟨_, rfl⟩
  have hq0 : 0 ≤ q := by rw [hq]; exact Int.mul_nonneg (by omega) (by omega)
  have hq1 : q ≤ 41000000 := by rw [hq]; exact Int.le_trans (Int.mul_le_mul hy.2 (show nr + p - 1 ≤ 20000 by omega) (by omega) (by omega)) (by decide)
  obtain ⟨s, hs⟩ : ∃ t, t = z * (r / 2) := ⟨_, rfl⟩
  have hs0 : 0 ≤ s := by rw [hs]; exact Int.mul_nonneg (by omega) (by omega)
  have hs1 : s ≤ 2000000 := by rw [hs]; exact Int.le_trans (Int.mul_le_mul hz.2 (show r / 2 ≤ 1000 by omega) (by omega) (by omega)) (by decide)
  have b1 : 0 ≤ n * r ∧ n * r ≤ 16000 := by rw [← hnr]; omega
  have b2 : 0 ≤ y * (n * r + p - 1) ∧ y * (n * r + p - 1) ≤ 41000000 := by rw [← hnr, ← hq]; omega
  have b3 : 0 ≤ z * (r / 2) ∧ z * (r / 2) ≤ 2000000 := by rw [← hs]; omega
  clear hq0 hq1 hq hs0 hs1 hs hnr0 hnr1 hnr q s nr
  go_in
  go_wp2
  go_ret
  exact ⟨rfl, by (repeat' (first | (with_reducible exact Below.refl _ _) | (with_reducible assumption) | (with_reducible refine below_drewN ?_ _) | (with_reducible refine Below.drew ?_) | (with_reducible refine below_alloc ?_ _) | (with_reducible refine Below.alloc ?_ ?_ _) | (with_reducible refine Below.setCell ?_ ?_ _) | (with_reducible refine below_go ?_ (by with_reducible assumption)) | (with_reducible refine below_then (by with_reducible assumption) ?_ ?_) | go_size))⟩
set_option maxHeartbeats 1000000 in
set_option maxRecDepth 100000 in
theorem spec_l21IdealL {A : Option Addr} {n c : Nat} {x y z : Int} {l : List ByteArray} {w : World} (hn : l.length = n) (h : Strs w A l) (hx : -1 ≤ x ∧ x ≤ 1000001) (hy : 0 ≤ y ∧ y ≤ 2001) (hzz : 0 ≤ z ∧ z ≤ 2000) (hl8 : l.length ≤ 800) (hdg : ∀ s ∈ l, digS s) :
    Calls Tryd.prog 30 #[.agg #[.int .i64 x, .int .i64 y, .int .i64 z], .slice A n c] w fun e w' => ∃ A' c', e = .returned (.slice A' (idl x y z l l.length).length c') ∧
      Owned strikeE 2 41 w' w.heap.size A' (idl x y z l l.length).length c' (idl x y z l l.length) ∧ (idl x y z l l.length).length ≤ 6400 ∧ Below w.heap.size w w' := by
  subst hn
  have HGR := Lib.hid hdg
  have HIL := Lib.hid (fun k hk => idl_len (x := x) (y := y) (z := z) (fun s hs' => (hdg s hs').1) k hk)
  clear hdg
  have hbA : Below w.heap.size w (w.alloc (.cells #[.int .i64 x, .int .i64 y, .int .i64 z] 25)) := by (repeat' (first | (with_reducible exact Below.refl _ _) | (with_reducible assumption) | (with_reducible refine below_drewN ?_ _) | (with_reducible refine Below.drew ?_) | (with_reducible refine below_alloc ?_ _) | (with_reducible refine Below.alloc ?_ ?_ _) | (with_reducible refine Below.setCell ?_ ?_ _) | (with_reducible refine below_go ?_ (by with_reducible assumption)) | (with_reducible refine below_then (by with_reducible assumption) ?_ ?_) | go_size))
  have HK := Lib.hid (Blk.at_ w 25 [.int .i64 x, .int .i64 y, .int .i64 z] (b := w.heap.size) rfl)
  have hsA : w.heap.size < (w.alloc (.cells #[.int .i64 x, .int .i64 y, .int .i64 z] 25)).heap.size := by simp
  go_in
  go_wp2
  obtain ⟨w2, hw2⟩ : ∃ u, u = w.alloc (.cells #[.int .i64 x, .int .i64 y, .int .i64 z] 25) := ⟨_, rfl⟩
  rw [← hw2] at hbA HK hsA ⊢
  clear hw2
  go_loopw [5, 11] (fun v i wr => ∃ (k : Nat) (A' : Option Addr) (N c' : Nat), k ≤ l.length ∧ i = .int .i64 k ∧ v = .slice A' N c' ∧ Owned strikeE 2 41 wr w2.heap.size A' N c' (idl x y z l k) ∧ Below w2.heap.size w2 wr) (fun _ i _ => l.length - (intOf i).toNat)
  case atStart => exact ⟨0, _, _, _, Nat.zero_le _, rfl, rfl, Owned.nil strikeE_len _ _ _, by (repeat' (first | (with_reducible exact Below.refl _ _) | (with_reducible assumption) | (with_reducible refine below_drewN ?_ _) | (with_reducible refine Below.drew ?_) | (with_reducible refine below_alloc ?_ _) | (with_reducible refine Below.alloc ?_ ?_ _) | (with_reducible refine Below.setCell ?_ ?_ _) | (with_reducible refine below_go ?_ (by with_reducible assumption)) | (with_reducible refine below_then (by with_reducible assumption) ?_ ?_) | go_size))⟩
  case round =>
    obtain ⟨k, A', N, c', hk, rfl, rfl, ho, hb⟩ := hrel
    rename World => wo
    have hbw := hbA.trans (hb.mono (by omega))
    have hIL := HIL.out k hk
    have hoN := ho.len
    rw [hoN] at hIL
    by_cases hlt : k < l.length
    · obtain ⟨b1, o1, r, rfl, hbb1, hr, hcr⟩ := (h.below hbw (Nat.le_refl _)).at_str hlt
      have hgr := HGR.out r (List.mem_of_getElem? hr)
      have hr8 := hgr.1
      have IS := Lib.hid (idl_succ (x := x) (y := y) (z := z) hr)
      have HO := Lib.hid ho
      have hrz := hr8
      have hbt := PlainAid.get_bt r
      clear hr ho
      go_wp2
      go_loopw [5, 8] (fun v i wr => ∃ (q : Nat) (A' : Option Addr) (N' c' : Nat), q ≤ r.size ∧ i = .int .i64 ((q : Int) + 1) ∧ v = .slice A' N' c' ∧ N' ≤ N + q ∧ Owned strikeE 2 41 wr w2.heap.size A' N' c' (idl x y z l k ++ rowStr x y z r k q) ∧ Below w2.heap.size w2 wr) (fun _ i _ => (r.size + 1) - (intOf i).toNat)
      case atStart => exact ⟨0, A', N, c', Nat.zero_le _, by go_num, rfl, Nat.le_refl _, by simpa [rowStr] using HO.out, hb⟩
      case round =>
        obtain ⟨q, A2, N2, c2, hq, rfl, rfl, hN2, ho2, hb2⟩ := hrel
        rename World => wi
        by_cases hqt : q < r.size
        · have hdq : 0 ≤ dg r q ∧ dg r q ≤ 9 := by have := hgr.2 q hqt; simp only [dg]; omega
          have hbq : PlainAid.bt r q = dg r q + 48 := by simp [dg]
          have RS := Lib.hid (rowStr_succ x y z r k q)
          have HO2 := Lib.hid ho2
          have hsz2 := hb2.size
          have KB := HK.out.below hb2 hsA
          have k0 := KB.cell 0; have k1 := KB.cell 1; have k2 := KB.cell 2
          simp only [List.getElem?_cons_zero, List.getElem?_cons_succ] at k0 k1 k2
          have bb := blowAtZ_bdL (r := (k : Int)) (p := (q : Int) + 1) hx hy hzz (n := (r.size : Int)) (by omega) (by omega) (by omega)
          obtain ⟨bz, hbz⟩ : ∃ u, u = blowAtZ x y z r.size k ((q : Int) + 1) := ⟨_, rfl⟩
          have HBZ := Lib.hid hbz
          rw [← hbz] at bb
          clear hbz ho2 KB
          have carry : Hid (∀ u : World, Below wi.heap.size wi u → u.cell? ⟨w.heap.size, 0, none⟩ = some (.int .i64 x) ∧ u.cell? ⟨w.heap.size, 1, none⟩ = some (.int .i64 y) ∧ u.cell? ⟨w.heap.size, 2, none⟩ = some (.int .i64 z)) := Lib.hid (fun u hu =>
            have q : ∀ o : Nat, u.cell? ⟨w.heap.size, o, none⟩ = wi.cell? ⟨w.heap.size, o, none⟩ := fun o => hu.cell (p := ⟨w.heap.size, o, none⟩) (by show w.heap.size < wi.heap.size; omega)
            ⟨(q 0).trans k0, (q 1).trans k1, (q 2).trans k2⟩)
          have far : Hid (∀ v u : World, Below wi.heap.size wi v → v.grownBy u (Value.slice A2 N2 c2).ownBlock → u.cell? ⟨w.heap.size, 0, none⟩ = some (.int .i64 x) ∧ u.cell? ⟨w.heap.size, 1, none⟩ = some (.int .i64 y) ∧ u.cell? ⟨w.heap.size, 2, none⟩ = some (.int .i64 z)) := Lib.hid (fun v u hv hg => by
            have hvs := hv.size
            have f1 : ∀ o : Nat, u.cell? ⟨w.heap.size, o, none⟩ = v.cell? ⟨w.heap.size, o, none⟩ := fun o => hg.cell_far _ (by show w.heap.size < v.heap.size; omega) (fun e => by have := HO2.out.blk e.symm; dsimp only at this; omega)
            rw [f1, f1, f1]
            exact carry.out v hv)
          go_wp2
          have hqI : (q : Int) < (r.size : Int) := by omega
          have hw1 := wrap_bt r q
          have gu : IntKind.u8.wrap (dg r q) = dg r q := IntWalk.u8_in _ (by omega)
          have gi : IntKind.i64.wrap (dg r q) = dg r q := wrap_id (by omega)
          have gq : IntKind.i64.wrap ((q : Int) + 1) = (q : Int) + 1 := wrap_id (by omega)
          have gs : dg r q + 48 - 48 = dg r q := by omega
          go_region_held3 (fun u => u.cell? ⟨w.heap.size, 0, none⟩ = some (.int .i64 x) ∧ u.cell? ⟨w.heap.size, 1, none⟩ = some (.int .i64 y) ∧ u.cell? ⟨w.heap.size, 2, none⟩ = some (.int .i64 z)) (first | exact far.out _ _ (hB2.alloc hB2.size _) hg3 | exact carry.out _ (hB2.alloc hB2.size _) | exact carry.out _ hB2 | exact carry.out _ (by (repeat' (first | (with_reducible exact Below.refl _ _) | (with_reducible assumption) | (with_reducible refine below_drewN ?_ _) | (with_reducible refine Below.drew ?_) | (with_reducible refine below_alloc ?_ _) | (with_reducible refine Below.alloc ?_ ?_ _) | (with_reducible refine Below.setCell ?_ ?_ _) | (with_reducible refine below_go ?_ (by with_reducible assumption)) | (with_reducible refine below_then (by with_reducible assumption) ?_ ?_) | go_size)))) (first | (go_at_call 49; refine (spec_l1AtI hqt (by omega) (by omega)).mono ?_; rw [hbq, gs]; rintro e w' ⟨rfl, rfl⟩) | (go_at_call 46; refine (spec_l21BlowL _ _ _ _ _ _ _ hx hy hzz (by omega) (by omega) (by omega)).mono ?_; rintro e w3 ⟨rfl, hbd⟩; rw [← HBZ.out]; have hB2 := below_of_drew hbd) | ((refine step_append_rec Tryd.elStrike (by rfl) _ _ (by rfl) (by rfl) ((HO2.out.up hB2).alloc _) (dg r q, bz) (by rfl) (Box.at_ _ [.int .i64 (dg r q), .int .i64 bz] _ (by rfl)) (strikeE_one _) (by omega) (by decide) (by have := hB2.size; simp; omega) ?_; intro A3 c3 w4 ho3 hg3 hb3)))
          all_goals
            have hfin := (hb2.trans ((hB2.alloc hB2.size _).mono (by omega))).trans hb3
            clear far carry k0 k1 k2
            go_wp2
            go_roundw
            case rel =>
              refine ⟨q + 1, A3, N2 + 1, c3, by omega, by go_num, by go_num, by omega, ?_, hfin⟩
              rw [RS.out, ← List.append_assoc, ← HBZ.out]; exact ho3
            case measure => simp [intOf]; omega
        · obtain rfl : q = r.size := by omega
          go_wp2
          go_roundw
          case rel => exact ⟨k + 1, A2, N2, c2, by omega, by go_num, rfl, by rw [IS.out]; exact ho2, hb2⟩
          case measure => simp [intOf]; omega
    · obtain rfl : k = l.length := by omega
      obtain rfl := hoN
      go_wp2
      go_ret
      exact ⟨_, _, rfl, ho.base_le (by omega), by omega, hbw⟩
end Go.Proofs.YtpccbmndgdiloaaDoor
/- The walk through the reference's merging of two lists of strikes. -/
namespace Go.Proofs.YtpccbmndgdiloaaDoor
set_option linter.unusedVariables false
set_option linter.unusedSimpArgs false
open Go.ChangeShapes Go.WideShapes Go.ChangeAt Go.RowKit Go.Deep
theorem Tryd.tailStrikes (b o n c : Nat) (h1 : 1 ≤ n) (u : World) : (Instr.slice 29 (.slice (some ⟨b, o, none⟩) n c) (some (.int .i64 1)) none none).run Tryd.prog u = .ok (.slice (some ⟨b, tailOff o 2 c, none⟩) (n - 1) (c - 1)) u := by
  have e1 : Tryd.prog.underlying 29 = some (.slice (Tryd.prog.elem 29)) := by kernel_rfl
  have e2 : (sizeOf (Tryd.prog.elem 29)).run Tryd.prog u = .ok 2 u := by kernel_rfl
  rw [run_slice_l (P := Tryd.prog) (w := u) 29 (some ⟨b, o, none⟩) n c e1 .i64 1 (by omega) (by omega), e2]
  simp only [Result.andThen_ok, sliced, tailOff]
  by_cases hc : c = 1
  · rw [if_pos hc, if_pos (by omega)]; rfl
  · rw [if_neg hc, if_neg (by omega)]; rfl
/-- Not later. -/
def leT (x y : Int × Int) : Bool := !decide (y.2 < x.2)
theorem mgT_left {x y : Int × Int} {a b : List (Int × Int)} (h : ¬ y.2 < x.2) : List.merge (x :: a) (y :: b) leT = x :: List.merge a (y :: b) leT := by
  rw [List.cons_merge_cons_pos leT a b (by simp [leT]; omega)]
theorem mgT_right {x y : Int × Int} {a b : List (Int × Int)} (h : y.2 < x.2) : List.merge (x :: a) (y :: b) leT = y :: List.merge (x :: a) b leT := by
  rw [List.cons_merge_cons_neg leT a b (by simp [leT]; omega)]
theorem head_2 {w : World} {A : Option Addr} {x : Int × Int} {l : List (Int × Int)} (h : Recs strikeE 2 w A (x :: l)) : ∃ b o, A = some ⟨b, o, none⟩ ∧ b < w.heap.size ∧ w.cell? ⟨b, o, none⟩ = some (.int .i64 x.1) ∧ w.cell? ⟨b, o + 1, none⟩ = some (.int .i64 x.2) := by
  obtain ⟨b, o, h1, h2, h3, h4⟩ := Recs.at_2 (f := fun s : Int × Int => Value.int .i64 s.1) (g := fun s : Int × Int => Value.int .i64 s.2) (k := 0) (x := x) h rfl
  refine ⟨b, o, h1, h2, ?_, ?_⟩
  · simpa using h3
  · simpa using h4
set_option maxHeartbeats 2000000 in
set_option maxRecDepth 100000 in
theorem spec_l21Merge {A B : Option Addr} {n m c d : Nat} {l1 l2 : List (Int × Int)} {w : World} (hn : l1.length = n) (h : Recs strikeE 2 w A l1) (hm : l2.length = m) (g : Recs strikeE 2 w B l2) (hz : n + m ≤ 16000000) (hnc : n ≤ c) (hmd : m ≤ d) (hc : c ≤ 9223372036854775807) (hd : d ≤ 9223372036854775807) :
    Calls Tryd.prog 59 #[.slice A n c, .slice B m d] w fun e w' => ∃ A' c', e = .returned (.slice A' (n + m) c') ∧ Owned strikeE 2 41 w' w.heap.size A' (n + m) c' (List.merge l1 l2 leT) ∧ Below w.heap.size w w' := by
  have HN := Lib.hid hn
  have HM := Lib.hid hm
  have HX := Lib.hid h
  have HY := Lib.hid g
  clear hn hm h g
  go_in
  go_wp2
  go_loopw [0, 1, 5] (fun va vb vc wr => ∃ (Aa : Option Addr) (na ca : Nat) (la : List (Int × Int)) (Ab : Option Addr) (nb cb : Nat) (lb : List (Int × Int)) (A' : Option Addr) (m' c' : Nat) (M : List (Int × Int)), va = .slice Aa na ca ∧ vb = .slice Ab nb cb ∧ vc = .slice A' m' c' ∧ na ≤ ca ∧ nb ≤ cb ∧ ca ≤ 9223372036854775807 ∧ cb ≤ 9223372036854775807 ∧ m' + na + nb = n + m ∧ Hid (la.length = na) ∧ Hid (lb.length = nb) ∧ Hid (Recs strikeE 2 w Aa la) ∧ Hid (Recs strikeE 2 w Ab lb) ∧ Hid (Owned strikeE 2 41 wr w.heap.size A' m' c' M) ∧ Hid (M ++ List.merge la lb leT = List.merge l1 l2 leT) ∧ Below w.heap.size w wr) (fun va vb _ _ => slLen va + slLen vb)
  case atStart => exact ⟨A, n, c, l1, B, m, d, l2, none, 0, 0, [], rfl, rfl, rfl, hnc, hmd, hc, hd, by omega, HN, HM, HX, HY, Lib.hid (Owned.nil strikeE_len _ _ _), Lib.hid (by simp), Below.refl _ _⟩
  case round =>
    obtain ⟨Aa, na, ca, la, Ab, nb, cb, lb, A', m', c', M, rfl, rfl, rfl, hna, hnb, hca, hcb, hsum, HLa, HLb, HA, HB, HO, HQ, hb⟩ := hrel
    rename World => wr
    have hsz := hb.size
    by_cases ha0 : na = 0
    · have HF := Lib.hid (show M ++ la ++ lb = List.merge l1 l2 leT by
        have : la = [] := List.eq_nil_of_length_eq_zero (by rw [HLa.out]; exact ha0)
        rw [← HQ.out, this, List.append_nil]; simp)
      have HS2 := Lib.hid hsum
      have hbd : m' + na + nb ≤ 16000000 := by omega
      have hI : ¬ (0 : Int) < (na : Int) := by omega
      clear ha0 hsum
      go_wp2_with (first | (at_builtin; ((refine wpList_append_recs Tryd.elStrike strikeE_one rfl (.tmp 39) (.tmp 40) rfl rfl HO.out rfl (HA.out.below hb (Nat.le_refl _)) HLa.out ?_ (by decide) ?_ ?_; (focus (first | omega | (simp only [World.size_alloc]; done) | (simp only [World.size_alloc]; omega) | (simp; done) | (simp; omega))); (focus (first | omega | (simp only [World.size_alloc]; done) | (simp only [World.size_alloc]; omega) | (simp; done) | (simp; omega))); intro A4 c4 w4 ho4 hg4 hl4; have hb4 := hb.trans (grown_base hg4 hsz (fun k hk => (HO.out.blk hk).1)); have hsz4 := hb4.size))) | (at_builtin; go_must ((refine wpList_append_recs Tryd.elStrike strikeE_one rfl (.tmp 41) (.tmp 42) rfl rfl ho4 rfl (HB.out.below hb4 (Nat.le_refl _)) HLb.out ?_ (by decide) ?_ ?_; (focus (first | omega | (simp only [World.size_alloc]; done) | (simp only [World.size_alloc]; omega) | (simp; done) | (simp; omega))); (focus (first | omega | (simp only [World.size_alloc]; done) | (simp only [World.size_alloc]; omega) | (simp; done) | (simp; omega))); intro A5 c5 w5 ho5 hg5 hl5))))
      have hb5 := hb4.trans (grown_base hg5 hsz4 (fun k hk => (ho4.blk hk).1))
      go_ret
      rw [HF.out, HS2.out] at ho5
      rw [HS2.out]
      exact ⟨_, _, rfl, ho5, hb5⟩
    · by_cases hb0 : nb = 0
      · have HF := Lib.hid (show M ++ la ++ lb = List.merge l1 l2 leT by
          have : lb = [] := List.eq_nil_of_length_eq_zero (by rw [HLb.out]; exact hb0)
          rw [← HQ.out, this, List.append_nil]; simp)
        have HS2 := Lib.hid hsum
        have hbd : m' + na + nb ≤ 16000000 := by omega
        have hI : (0 : Int) < (na : Int) := by omega
        have hJ : ¬ (0 : Int) < (nb : Int) := by omega
        clear ha0 hb0 hsum
        go_wp2_with (first | (at_builtin; ((refine wpList_append_recs Tryd.elStrike strikeE_one rfl (.tmp 39) (.tmp 40) rfl rfl HO.out rfl (HA.out.below hb (Nat.le_refl _)) HLa.out ?_ (by decide) ?_ ?_; (focus (first | omega | (simp only [World.size_alloc]; done) | (simp only [World.size_alloc]; omega) | (simp; done) | (simp; omega))); (focus (first | omega | (simp only [World.size_alloc]; done) | (simp only [World.size_alloc]; omega) | (simp; done) | (simp; omega))); intro A4 c4 w4 ho4 hg4 hl4; have hb4 := hb.trans (grown_base hg4 hsz (fun k hk => (HO.out.blk hk).1)); have hsz4 := hb4.size))) | (at_builtin; go_must ((refine wpList_append_recs Tryd.elStrike strikeE_one rfl (.tmp 41) (.tmp 42) rfl rfl ho4 rfl (HB.out.below hb4 (Nat.le_refl _)) HLb.out ?_ (by decide) ?_ ?_; (focus (first | omega | (simp only [World.size_alloc]; done) | (simp only [World.size_alloc]; omega) | (simp; done) | (simp; omega))); (focus (first | omega | (simp only [World.size_alloc]; done) | (simp only [World.size_alloc]; omega) | (simp; done) | (simp; omega))); intro A5 c5 w5 ho5 hg5 hl5))))
        have hb5 := hb4.trans (grown_base hg5 hsz4 (fun k hk => (ho4.blk hk).1))
        go_ret
        rw [HF.out, HS2.out] at ho5
        rw [HS2.out]
        exact ⟨_, _, rfl, ho5, hb5⟩
      · obtain ⟨x, la', hla⟩ : ∃ x la', la = x :: la' := by
          rcases la with _ | ⟨x, la'⟩
          · exact absurd HLa.out.symm ha0
          · exact ⟨x, la', rfl⟩
        obtain ⟨y, lb', hlb⟩ : ∃ y lb', lb = y :: lb' := by
          rcases lb with _ | ⟨y, lb'⟩
          · exact absurd HLb.out.symm hb0
          · exact ⟨y, lb', rfl⟩
        subst hla hlb
        obtain ⟨x1, x2⟩ := x
        obtain ⟨y1, y2⟩ := y
        obtain ⟨b1, o1, rfl, bb1, hx1, hx2⟩ := head_2 (HA.out.below hb (Nat.le_refl _))
        obtain ⟨b2, o2, rfl, bb2, hy1, hy2⟩ := head_2 (HB.out.below hb (Nat.le_refl _))
        simp only at hx1 hx2 hy1 hy2
        have t1 := Tryd.tailStrikes b1 o1 na ca (by omega)
        have t2 := Tryd.tailStrikes b2 o2 nb cb (by omega)
        by_cases hl : y2 < x2
        · have hq1 := Lib.hid (mgT_right (x := (x1, x2)) (y := (y1, y2)) (a := la') (b := lb') hl)
          clear t1
          go_wp2
          go_quiet (fail)
          go_wp2_with (first | (at_builtin; go_must ((refine wpList_append_rec Tryd.elStrike rfl (.tmp 23) (.tmp 27) rfl rfl ((HO.out.drewN _).alloc _) (y1, y2) rfl (Box.at_ _ [.int .i64 y1, .int .i64 y2] _ ?_) (strikeE_one _) ?_ (by decide) ?_ ?_; (focus (first | omega | (simp only [World.size_alloc]; done) | (simp only [World.size_alloc]; omega) | (simp; done) | (simp; omega))); (focus (first | omega | (simp only [World.size_alloc]; done) | (simp only [World.size_alloc]; omega) | (simp; done) | (simp; omega))); (focus (first | omega | (simp only [World.size_alloc]; done) | (simp only [World.size_alloc]; omega) | (simp; done) | (simp; omega))); intro A4 c4 w4 ho4 hg4 hb4))))
          go_roundw
          case rel => exact ⟨some ⟨b1, o1, none⟩, na, ca, (x1, x2) :: la', some ⟨b2, tailOff o2 2 cb, none⟩, nb - 1, cb - 1, lb', A4, m' + 1, c4, M ++ [(y1, y2)], rfl, rfl, rfl, by omega, by omega, by omega, by omega, by omega, HLa, Lib.hid (by have := HLb.out; simp at this; omega), HA, Lib.hid (HB.out.tail (by have := HLb.out; simpa using this) hnb), Lib.hid ho4, Lib.hid (by rw [← HQ.out, hq1.out, List.append_assoc]; rfl), ((below_drewN hb _).alloc (by simp; omega) _).trans hb4⟩
          case measure => simp [slLen]; omega
        · have hq1 := Lib.hid (mgT_left (x := (x1, x2)) (y := (y1, y2)) (a := la') (b := lb') hl)
          clear t2
          go_wp2
          go_quiet (fail)
          go_wp2_with (first | (at_builtin; go_must ((refine wpList_append_rec Tryd.elStrike rfl (.tmp 31) (.tmp 35) rfl rfl ((HO.out.drewN _).alloc _) (x1, x2) rfl (Box.at_ _ [.int .i64 x1, .int .i64 x2] _ ?_) (strikeE_one _) ?_ (by decide) ?_ ?_; (focus (first | omega | (simp only [World.size_alloc]; done) | (simp only [World.size_alloc]; omega) | (simp; done) | (simp; omega))); (focus (first | omega | (simp only [World.size_alloc]; done) | (simp only [World.size_alloc]; omega) | (simp; done) | (simp; omega))); (focus (first | omega | (simp only [World.size_alloc]; done) | (simp only [World.size_alloc]; omega) | (simp; done) | (simp; omega))); intro A4 c4 w4 ho4 hg4 hb4))))
          go_roundw
          case rel => exact ⟨some ⟨b1, tailOff o1 2 ca, none⟩, na - 1, ca - 1, la', some ⟨b2, o2, none⟩, nb, cb, (y1, y2) :: lb', A4, m' + 1, c4, M ++ [(x1, x2)], rfl, rfl, rfl, by omega, by omega, by omega, by omega, by omega, Lib.hid (by have := HLa.out; simp at this; omega), HLb, Lib.hid (HA.out.tail (by have := HLa.out; simpa using this) hna), HB, Lib.hid ho4, Lib.hid (by rw [← HQ.out, hq1.out, List.append_assoc]; rfl), ((below_drewN hb _).alloc (by simp; omega) _).trans hb4⟩
          case measure => simp [slLen]; omega
end Go.Proofs.YtpccbmndgdiloaaDoor
/- The walks through the generators of touches and calls. -/
namespace Go.Proofs.YtpccbmndgdiloaaDoor
set_option linter.unusedVariables false
set_option linter.unusedSimpArgs false
open Go.ChangeShapes Go.WideShapes Go.ChangeAt Go.RowKit Go.Deep
theorem sets3_grown (u : World) (r : Nat) (a b c : Value) : u.grownBy (((u.setCell ⟨r, 0, none⟩ a).setCell ⟨r, 1, none⟩ b).setCell ⟨r, 2, none⟩ c) (some r) :=
  grownBy_trans (grownBy_trans (only_set _ (p := ⟨r, 0, none⟩) _) (only_set _ (p := ⟨r, 1, none⟩) _)) (only_set _ (p := ⟨r, 2, none⟩) _)
theorem sets2_grown (u : World) (r : Nat) (a b : Value) : u.grownBy ((u.setCell ⟨r, 0, none⟩ a).setCell ⟨r, 1, none⟩ b) (some r) :=
  grownBy_trans (only_set _ (p := ⟨r, 0, none⟩) _) (only_set _ (p := ⟨r, 1, none⟩) _)
end Go.Proofs.YtpccbmndgdiloaaDoor
/- The walks through draws of beats and strikes. -/
namespace Go.Proofs.YtpccbmndgdiloaaDoor
set_option linter.unusedVariables false
set_option linter.unusedSimpArgs false
open Go.ChangeShapes Go.WideShapes Go.ChangeAt Go.RowKit Go.Deep
theorem spec_l1MostS (a b : Int) (w : World) :
    Calls Tryd.prog 58 #[.int .i64 a, .int .i64 b] w fun e w' => e = .returned (.int .i64 (max a b)) ∧ w = w' := by
  by_cases h : b < a
  · go_in
    go_wp2
    go_ret
    exact ⟨ret_int (by omega), rfl⟩
  · go_in
    go_wp2
    go_ret
    exact ⟨ret_int (by omega), rfl⟩
set_option maxHeartbeats 1000000 in
set_option maxRecDepth 100000 in
theorem cur_beat {A : Option Addr} {n c a p : Nat} {w0 w : World} (hS : Src w0 A n) (hb : Below w0.heap.size w0 w) (hp : w0.heap.size ≤ p) (hc : Cur w p A n c a) (ha : a ≤ 1000000) :
    Calls Tryd.prog 23 #[.pointer (some ⟨p, 0, none⟩)] w fun e w' => ∃ x y z : Int, e = .returned (.agg #[.int .i64 x, .int .i64 y, .int .i64 z]) ∧ (-1 ≤ x ∧ x ≤ 1000001) ∧ (0 ≤ y ∧ y ≤ 2001) ∧ (0 ≤ z ∧ z ≤ 250) ∧ Cur w' p A n c (a + 10) ∧ w.grownBy w' (some p) := by
  have hpw := hc.lt
  have G : Hid (∀ u : World, w.grownBy u (some p) → Below w0.heap.size w0 u) := Lib.hid (fun u hg => grown_below hb hp hg)
  have HS := Lib.hid hS
  have R0 := Blk.at_ w 25 [.int .i64 0, .int .i64 0, .int .i64 0] (b := w.heap.size) rfl
  have a0 : Below w.heap.size w (w.alloc (.cells #[.int .i64 0, .int .i64 0, .int .i64 0] 25)) := by (repeat' (first | (with_reducible exact Below.refl _ _) | (with_reducible assumption) | (with_reducible refine below_drewN ?_ _) | (with_reducible refine Below.drew ?_) | (with_reducible refine below_alloc ?_ _) | (with_reducible refine Below.alloc ?_ ?_ _) | (with_reducible refine Below.setCell ?_ ?_ _) | (with_reducible refine below_go ?_ (by with_reducible assumption)) | (with_reducible refine below_then (by with_reducible assumption) ?_ ?_) | go_size))
  go_in
  go_upto_region 1 with fail
  obtain ⟨v0, hv0⟩ : ∃ u, u = w.alloc (.cells #[.int .i64 0, .int .i64 0, .int .i64 0] 25) := ⟨_, rfl⟩
  have z0 : w.heap.size < v0.heap.size := by rw [hv0]; simp
  rw [← hv0] at R0 a0 ⊢
  clear hv0
  have hcv := hc.up a0
  have hgv : w.grownBy v0 (some p) := grown_any a0 _
  clear hS hb
  have lw1 := lit_ints v0 3 [0, 100, 1000]
  have ltw1 := hcv.lt
  go_wp2_with fail
  refine (cur_among HS.out ((G.out _ hgv).alloc (G.out _ hgv).size _) hp (hcv.up ((Below.refl _ _).alloc (Nat.le_refl _) _)) (by omega) rfl lw1 (by decide) (by decide) (fun b o e => by injection e with e; injection e with e; omega)).mono ?_; rintro e w1 ⟨x, hx, rfl, hcw1, hhw1⟩
  have hgw1 := grownBy_trans hgv (grownBy_trans (World.grownBy_alloc _ _ _) hhw1)
  have bx : 0 ≤ x ∧ x ≤ 1000 := by simp only [List.mem_cons, List.not_mem_nil, or_false] at hx; omega
  clear hx lw1
  have lw2 := lit_ints w1 3 [200, 230, 250]
  have ltw2 := hcw1.lt
  go_wp2_with fail
  refine (cur_among HS.out ((G.out _ hgw1).alloc (G.out _ hgw1).size _) hp (hcw1.up ((Below.refl _ _).alloc (Nat.le_refl _) _)) (by omega) rfl lw2 (by decide) (by decide) (fun b o e => by injection e with e; injection e with e; omega)).mono ?_; rintro e w2 ⟨y, hy, rfl, hcw2, hhw2⟩
  have hgw2 := grownBy_trans hgw1 (grownBy_trans (World.grownBy_alloc _ _ _) hhw2)
  have bY : 200 ≤ y ∧ y ≤ 250 := by simp only [List.mem_cons, List.not_mem_nil, or_false] at hy; omega
  clear hy lw2
  have lw3 := lit_ints w2 3 [0, 200, 250]
  have ltw3 := hcw2.lt
  go_wp2_with fail
  refine (cur_among HS.out ((G.out _ hgw2).alloc (G.out _ hgw2).size _) hp (hcw2.up ((Below.refl _ _).alloc (Nat.le_refl _) _)) (by omega) rfl lw3 (by decide) (by decide) (fun b o e => by injection e with e; injection e with e; omega)).mono ?_; rintro e w3 ⟨z, hz, rfl, hcw3, hhw3⟩
  have hgw3 := grownBy_trans hgw2 (grownBy_trans (World.grownBy_alloc _ _ _) hhw3)
  have bz : 0 ≤ z ∧ z ≤ 250 := by simp only [List.mem_cons, List.not_mem_nil, or_false] at hz; omega
  have R3 : Blk w3 w.heap.size 25 [.int .i64 0, .int .i64 0, .int .i64 0] := (((((R0.alloc _).grown hhw1 (fun e => by injection e with e; omega)).alloc _).grown hhw2 (fun e => by injection e with e; omega)).alloc _).grown hhw3 (fun e => by injection e with e; omega)
  have K3 := Blk.at_ w3 25 [.int .i64 x, .int .i64 y, .int .i64 z] (b := w3.heap.size) rfl
  have a3 : Below w3.heap.size w3 (w3.alloc (.cells #[.int .i64 x, .int .i64 y, .int .i64 z] 25)) := by (repeat' (first | (with_reducible exact Below.refl _ _) | (with_reducible assumption) | (with_reducible refine below_drewN ?_ _) | (with_reducible refine Below.drew ?_) | (with_reducible refine below_alloc ?_ _) | (with_reducible refine Below.alloc ?_ ?_ _) | (with_reducible refine Below.setCell ?_ ?_ _) | (with_reducible refine below_go ?_ (by with_reducible assumption)) | (with_reducible refine below_then (by with_reducible assumption) ?_ ?_) | go_size))
  have s3 := hgw3.size
  have s3v := R3.lt
  clear hz lw3 R0 a0 hcv hgv hcw1 hgw1 hhw1 hcw2 hgw2 hhw2 hhw3 hc ltw1 ltw2 ltw3
  go_upto_region 2 with fail
  obtain ⟨v4, hv4⟩ : ∃ u, u = w3.alloc (.cells #[.int .i64 x, .int .i64 y, .int .i64 z] 25) := ⟨_, rfl⟩
  have z4 : w3.heap.size < v4.heap.size := by rw [hv4]; simp
  rw [← hv4] at K3 a3 ⊢
  clear hv4
  have R4 := R3.up a3
  have hc4 := hcw3.up a3
  have hg4 := grownBy_trans hgw3 (grown_any a3 (some p))
  clear R3 a3 hcw3 hgw3
  go_wp2_with fail
  refine (cur_pick HS.out (G.out _ hg4) hp hc4 (by omega) (by decide) (by decide)).mono ?_; rintro e w5 ⟨q, rfl, ⟨q0, q1⟩, hc5, hh5⟩
  have hg5 := grownBy_trans hg4 hh5
  have R5 := R4.grown hh5 (fun e => by injection e with e; omega)
  have K5 := K3.grown hh5 (fun e => by injection e with e; omega)
  clear R4 K3 hc4 hg4
  obtain ⟨Q, rfl⟩ := Int.eq_ofNat_of_zero_le q0
  clear q0 q1
  by_cases Q0 : Q = 0
  · subst Q0
    have lw6 := lit_ints w5 3 [0, 1, 2000, 2001]
    have ltw6 := hc5.lt
    go_wp2_with fail
    refine (cur_among HS.out ((G.out _ hg5).alloc (G.out _ hg5).size _) hp (hc5.up ((Below.refl _ _).alloc (Nat.le_refl _) _)) (by omega) rfl lw6 (by decide) (by decide) (fun b o e => by injection e with e; injection e with e; omega)).mono ?_; rintro e w6 ⟨v, hv, rfl, hcw6, hhw6⟩
    have hgw6 := grownBy_trans hg5 (grownBy_trans (World.grownBy_alloc _ _ _) hhw6)
    have bv : 0 ≤ v ∧ v ≤ 2001 := by simp only [List.mem_cons, List.not_mem_nil, or_false] at hv; omega
    have g6 := grownBy_trans (World.grownBy_alloc w5 _ (some p)) hhw6
    have R6 := R5.grown g6 (fun e => by injection e with e; omega)
    have K6 := K5.grown g6 (fun e => by injection e with e; omega)
    have o1 := K6.cell 1; have of1 := K6.frozen 1; have o0 := K6.cell 0; have o2 := K6.cell 2
    simp only [List.getElem?_cons_zero, List.getElem?_cons_succ] at o0 o1 o2
    clear hv lw6 R5 K5 hc5 hg5 hhw6 g6
    have qs := only_set w6 (p := ⟨w3.heap.size, 1, none⟩) (.int .i64 v)
    have RR := R6.grown qs (fun e => by injection e with e; dsimp only at e; omega)
    have K7 := K6.set_ 1 (.int .i64 v)
    have k0 := K7.cell 0; have k1 := K7.cell 1; have k2 := K7.cell 2
    have C7 := hcw6.grown qs (fun e => by injection e with e; dsimp only at e; omega)
    have G7 := grow_own hgw6 qs (fun k e => by injection e with e; dsimp only at e; omega)
    clear K6 K7 R6 qs hcw6 hgw6
    have u0 := RR.cell 0; have u1 := RR.cell 1; have u2 := RR.cell 2; have f0 := RR.frozen 0; have f1 := RR.frozen 1; have f2 := RR.frozen 2
    simp only [List.getElem?_cons_zero, List.getElem?_cons_succ, List.set_cons_zero, List.set_cons_succ] at k0 k1 k2 u0 u1 u2
    have q1 := sets3_grown (w6.setCell ⟨w3.heap.size, 1, none⟩ (.int .i64 v)) w.heap.size (.int .i64 x) (.int .i64 v) (.int .i64 z)
    have R6 := ((RR.set_ 0 (.int .i64 x)).set_ 1 (.int .i64 v)).set_ 2 (.int .i64 z)
    have e0 := R6.cell 0; have e1 := R6.cell 1; have e2 := R6.cell 2
    simp only [List.getElem?_cons_zero, List.getElem?_cons_succ, List.set_cons_zero, List.set_cons_succ] at e0 e1 e2
    have HCF := Lib.hid (C7.grown q1 (fun e => by injection e with e; omega))
    have HGF := Lib.hid (grow_own G7 q1 (fun k e => by injection e with e; omega))
    clear R6 q1 RR
    go_wp2_with fail
    refine bodyPost_ret (v := .agg #[.int .i64 x, .int .i64 v, .int .i64 z]) (by simp [results, Tryd.results23, go_sem, e0, e1, e2]) rfl ?_
    exact ⟨x, v, z, rfl, by omega, by omega, by omega, HCF.out.mono (by omega), HGF.out⟩
  · have Q0I : ¬ (Q : Int) = 0 := by omega
    by_cases Q1 : Q = 1
    · subst Q1
      have lw6 := lit_ints w5 3 [-1, 1000000, 1000001]
      have ltw6 := hc5.lt
      go_wp2_with fail
      refine (cur_among HS.out ((G.out _ hg5).alloc (G.out _ hg5).size _) hp (hc5.up ((Below.refl _ _).alloc (Nat.le_refl _) _)) (by omega) rfl lw6 (by decide) (by decide) (fun b o e => by injection e with e; injection e with e; omega)).mono ?_; rintro e w6 ⟨v, hv, rfl, hcw6, hhw6⟩
      have hgw6 := grownBy_trans hg5 (grownBy_trans (World.grownBy_alloc _ _ _) hhw6)
      have bv : -1 ≤ v ∧ v ≤ 1000001 := by simp only [List.mem_cons, List.not_mem_nil, or_false] at hv; omega
      have g6 := grownBy_trans (World.grownBy_alloc w5 _ (some p)) hhw6
      have R6 := R5.grown g6 (fun e => by injection e with e; omega)
      have K6 := K5.grown g6 (fun e => by injection e with e; omega)
      have o1 := K6.cell 1; have of0 := K6.frozen 0; have o0 := K6.cell 0; have o2 := K6.cell 2
      simp only [List.getElem?_cons_zero, List.getElem?_cons_succ] at o0 o1 o2
      clear hv lw6 R5 K5 hc5 hg5 hhw6 g6
      have qs := only_set w6 (p := ⟨w3.heap.size, 0, none⟩) (.int .i64 v)
      have RR := R6.grown qs (fun e => by injection e with e; dsimp only at e; omega)
      have K7 := K6.set_ 0 (.int .i64 v)
      have k0 := K7.cell 0; have k1 := K7.cell 1; have k2 := K7.cell 2
      have C7 := hcw6.grown qs (fun e => by injection e with e; dsimp only at e; omega)
      have G7 := grow_own hgw6 qs (fun k e => by injection e with e; dsimp only at e; omega)
      clear K6 K7 R6 qs hcw6 hgw6
      have u0 := RR.cell 0; have u1 := RR.cell 1; have u2 := RR.cell 2; have f0 := RR.frozen 0; have f1 := RR.frozen 1; have f2 := RR.frozen 2
      simp only [List.getElem?_cons_zero, List.getElem?_cons_succ, List.set_cons_zero, List.set_cons_succ] at k0 k1 k2 u0 u1 u2
      have q1 := sets3_grown (w6.setCell ⟨w3.heap.size, 0, none⟩ (.int .i64 v)) w.heap.size (.int .i64 v) (.int .i64 y) (.int .i64 z)
      have R6 := ((RR.set_ 0 (.int .i64 v)).set_ 1 (.int .i64 y)).set_ 2 (.int .i64 z)
      have e0 := R6.cell 0; have e1 := R6.cell 1; have e2 := R6.cell 2
      simp only [List.getElem?_cons_zero, List.getElem?_cons_succ, List.set_cons_zero, List.set_cons_succ] at e0 e1 e2
      have HCF := Lib.hid (C7.grown q1 (fun e => by injection e with e; omega))
      have HGF := Lib.hid (grow_own G7 q1 (fun k e => by injection e with e; omega))
      clear R6 q1 RR
      go_wp2_with fail
      refine bodyPost_ret (v := .agg #[.int .i64 v, .int .i64 y, .int .i64 z]) (by simp [results, Tryd.results23, go_sem, e0, e1, e2]) rfl ?_
      exact ⟨v, y, z, rfl, by omega, by omega, by omega, HCF.out.mono (by omega), HGF.out⟩
    · have Q1I : ¬ (Q : Int) = 1 := by omega
      have k0 := K5.cell 0; have k1 := K5.cell 1; have k2 := K5.cell 2
      have RR := R5
      have u0 := RR.cell 0; have u1 := RR.cell 1; have u2 := RR.cell 2; have f0 := RR.frozen 0; have f1 := RR.frozen 1; have f2 := RR.frozen 2
      simp only [List.getElem?_cons_zero, List.getElem?_cons_succ, List.set_cons_zero, List.set_cons_succ] at k0 k1 k2 u0 u1 u2
      have q1 := sets3_grown w5 w.heap.size (.int .i64 x) (.int .i64 y) (.int .i64 z)
      have R6 := ((RR.set_ 0 (.int .i64 x)).set_ 1 (.int .i64 y)).set_ 2 (.int .i64 z)
      have e0 := R6.cell 0; have e1 := R6.cell 1; have e2 := R6.cell 2
      simp only [List.getElem?_cons_zero, List.getElem?_cons_succ, List.set_cons_zero, List.set_cons_succ] at e0 e1 e2
      have HCF := Lib.hid (hc5.grown q1 (fun e => by injection e with e; omega))
      have HGF := Lib.hid (grow_own hg5 q1 (fun k e => by injection e with e; omega))
      clear R6 q1 RR
      go_wp2_with fail
      refine bodyPost_ret (v := .agg #[.int .i64 x, .int .i64 y, .int .i64 z]) (by simp [results, Tryd.results23, go_sem, e0, e1, e2]) rfl ?_
      exact ⟨x, y, z, rfl, by omega, by omega, by omega, HCF.out.mono (by omega), HGF.out⟩
end Go.Proofs.YtpccbmndgdiloaaDoor
/- The walks through draws of strikes. -/
namespace Go.Proofs.YtpccbmndgdiloaaDoor
set_option linter.unusedVariables false
set_option linter.unusedSimpArgs false
open Go.ChangeShapes Go.WideShapes Go.ChangeAt Go.RowKit Go.Deep
theorem at_strike {w : World} {A : Option Addr} {l : List (Int × Int)} {k : Nat} {x1 x2 : Int} (h : Recs strikeE 2 w A l) (hx : l[k]? = some (x1, x2)) : ∃ b o, A = some ⟨b, o, none⟩ ∧ b < w.heap.size ∧ w.cell? ⟨b, o + k * 2, none⟩ = some (.int .i64 x1) ∧ w.cell? ⟨b, o + k * 2 + 1, none⟩ = some (.int .i64 x2) :=
  Recs.at_2 (f := fun s : Int × Int => Value.int .i64 s.1) (g := fun s : Int × Int => Value.int .i64 s.2) h hx
theorem lit_strike (w : World) (x y : Int) : Recs strikeE 2 (w.alloc (.cells #[.int .i64 x, .int .i64 y] 41)) (some ⟨w.heap.size, 0, none⟩) [(x, y)] := by
  refine ⟨strikeE_len, rfl, fun hn => ⟨w.heap.size, 0, rfl, by simp, fun j u hu => ?_⟩⟩
  have h := Box.new w [.int .i64 x, .int .i64 y] 41
  rw [Nat.zero_add]
  exact h j u hu
/-- Bells and times as draws make them. -/
def stkB (s : Int × Int) : Prop := (0 ≤ s.1 ∧ s.1 ≤ 9) ∧ 0 ≤ s.2 ∧ s.2 ≤ 200000000
def stkL (L : List (Int × Int)) : Prop := ∀ s ∈ L, stkB s
theorem mg_mem {P : Int × Int → Prop} {a b : List (Int × Int)} (h : ∀ s ∈ a, P s) (g : ∀ s ∈ b, P s) : ∀ s ∈ List.merge a b leT, P s := fun s hs => by
  have := (List.merge_perm_append leT).mem_iff.1 hs
  rcases List.mem_append.1 this with hs | hs
  · exact h s hs
  · exact g s hs
set_option maxHeartbeats 2000000 in
set_option maxRecDepth 100000 in
theorem cur_struck {A B : Option Addr} {n c a p m d : Nat} {x y z : Int} {l : List ByteArray} {w0 w : World} (hS : Src w0 A n) (hb : Below w0.heap.size w0 w) (hp : w0.heap.size ≤ p) (hc : Cur w p A n c a) (ha : a ≤ 900000) (hx : -1 ≤ x ∧ x ≤ 1000001) (hy : 0 ≤ y ∧ y ≤ 2001) (hzz : 0 ≤ z ∧ z ≤ 2000) (hl : l.length = m) (h : Strs w B l) (hm : m ≤ 12) (hdg : ∀ s ∈ l, digS s) :
    Calls Tryd.prog 51 #[.pointer (some ⟨p, 0, none⟩), .agg #[.int .i64 x, .int .i64 y, .int .i64 z], .slice B m d] w fun e w' => ∃ A' m' c' L, e = .returned (.slice A' m' c') ∧ m' ≤ 192 ∧ stkL L ∧ Owned strikeE 2 41 w' w.heap.size A' m' c' L ∧ Cur w' p A n c (a + 400) ∧ w.grownBy w' (some p) := by
  have hpw := hc.lt
  have G : Hid (∀ u : World, w.grownBy u (some p) → Below w0.heap.size w0 u) := Lib.hid (fun u hg => grown_below hb hp hg)
  have HS := Lib.hid hS
  have K0 := Blk.at_ w 25 [.int .i64 x, .int .i64 y, .int .i64 z] (b := w.heap.size) rfl
  have a0 : Below w.heap.size w (w.alloc (.cells #[.int .i64 x, .int .i64 y, .int .i64 z] 25)) := by (repeat' (first | (with_reducible exact Below.refl _ _) | (with_reducible assumption) | (with_reducible refine below_drewN ?_ _) | (with_reducible refine Below.drew ?_) | (with_reducible refine below_alloc ?_ _) | (with_reducible refine Below.alloc ?_ ?_ _) | (with_reducible refine Below.setCell ?_ ?_ _) | (with_reducible refine below_go ?_ (by with_reducible assumption)) | (with_reducible refine below_then (by with_reducible assumption) ?_ ?_) | go_size))
  clear hS hb
  go_in
  go_upto_region 2 with fail
  obtain ⟨v0, hv0⟩ : ∃ u, u = w.alloc (.cells #[.int .i64 x, .int .i64 y, .int .i64 z] 25) := ⟨_, rfl⟩
  have z0 : w.heap.size < v0.heap.size := by rw [hv0]; simp
  rw [← hv0] at K0 a0 ⊢
  clear hv0
  have hcv := hc.up a0
  have hgv : w.grownBy v0 (some p) := grown_any a0 _
  have k0 := K0.cell 0; have k1 := K0.cell 1; have k2 := K0.cell 2
  simp only [List.getElem?_cons_zero, List.getElem?_cons_succ] at k0 k1 k2
  go_wp2_with fail
  refine (spec_l21IdealL hl (h.up a0) hx hy hzz (by omega) hdg).mono ?_; rintro e w1 ⟨AI, cI, rfl, hoI, _, hbI⟩
  have HIB := Lib.hid (idl_bdL hx hy hzz (by omega) hdg l.length (Nat.le_refl _))
  have hIL := idl_len (x := x) (y := y) (z := z) (fun s hs => (hdg s hs).1) l.length (Nat.le_refl _)
  obtain ⟨LI, hLI⟩ : ∃ LI, LI = idl x y z l l.length := ⟨_, rfl⟩
  rw [← hLI] at hoI HIB hIL
  rw [← hLI]
  have hI96 : LI.length ≤ 96 := by omega
  obtain ⟨MI, hMI⟩ : ∃ MI, MI = LI.length := ⟨_, rfl⟩
  rw [← hMI] at hoI hI96 ⊢
  have HMI := Lib.hid hMI.symm
  have HI1 := Lib.hid (hoI.base_le (Nat.le_of_lt z0))
  have HC1 := Lib.hid (hcv.up hbI)
  have HG1 := Lib.hid (grownBy_trans hgv (grown_any hbI (some p)))
  clear hoI hLI hIL hbI hgv hcv K0 k0 k1 k2 a0 hdg h hl hMI hc
  go_wp2
  go_loopw [7, 14] (fun v i wr => ∃ (k m' : Nat) (A' : Option Addr) (c' : Nat) (L : List (Int × Int)), k ≤ MI ∧ i = .int .i64 k ∧ v = .slice A' m' c' ∧ m' ≤ 2 * k ∧ stkL L ∧ Hid (Owned strikeE 2 41 wr w.heap.size AI MI cI LI) ∧ Hid (Owned strikeE 2 41 wr w.heap.size A' m' c' L) ∧ Hid (Cur wr p A n c (a + 3 * k)) ∧ Hid (w.grownBy wr (some p))) (fun _ i _ => MI - (intOf i).toNat)
  case atStart => exact ⟨0, 0, none, 0, [], Nat.zero_le _, rfl, rfl, by omega, (fun s hs => by cases hs), HI1, Lib.hid (Owned.nil strikeE_len _ _ _), HC1, HG1⟩
  case round =>
    obtain ⟨k, m', A2, c2, L, hk, rfl, rfl, hm2, HZ, HI, HO, HC, HG⟩ := hrel
    rename World => wr
    have hsr := HG.out.size
    by_cases hlt : k < MI
    · have hI : (k : Int) < (MI : Int) := by omega
      obtain ⟨⟨xb, xa⟩, hxk⟩ := some_of_lt (l := LI) (k := k) (by rw [HMI.out]; exact hlt)
      have hxz := HIB.out _ (List.mem_of_getElem? hxk)
      dsimp only at hxz
      obtain ⟨gI, oI, rfl, hbI, cx0, cx1⟩ := at_strike HI.out.recs hxk
      have K1 := Blk.at_ wr 41 [.int .i64 xb, .int .i64 xa] (b := wr.heap.size) rfl
      have a1 : Below wr.heap.size wr (wr.alloc (.cells #[.int .i64 xb, .int .i64 xa] 41)) := by (repeat' (first | (with_reducible exact Below.refl _ _) | (with_reducible assumption) | (with_reducible refine below_drewN ?_ _) | (with_reducible refine Below.drew ?_) | (with_reducible refine below_alloc ?_ _) | (with_reducible refine Below.alloc ?_ ?_ _) | (with_reducible refine Below.setCell ?_ ?_ _) | (with_reducible refine below_go ?_ (by with_reducible assumption)) | (with_reducible refine below_then (by with_reducible assumption) ?_ ?_) | go_size))
      have HIa := Lib.hid (HI.out.up a1)
      have HOa := Lib.hid (HO.out.up a1)
      have HCa := Lib.hid (HC.out.up a1)
      have HGa := Lib.hid (grownBy_trans HG.out (grown_any a1 (some p)))
      have RI := Lib.hid HI.out.range
      have RO := Lib.hid HO.out.range
      clear hxk HI HO HC HG
      go_upto_region 5 with fail
      obtain ⟨v1, hv1⟩ : ∃ u, u = wr.alloc (.cells #[.int .i64 xb, .int .i64 xa] 41) := ⟨_, rfl⟩
      have z1 : wr.heap.size < v1.heap.size := by rw [hv1]; simp
      rw [← hv1] at K1 HIa HOa HCa HGa ⊢
      clear hv1 a1 cx0 cx1
      go_wp2_with fail
      refine (cur_one HS.out (G.out _ HGa.out) hp HCa.out (by omega) (by decide) (by decide)).mono ?_; rintro e w2 ⟨bb, rfl, hc2, hg2⟩
      have K2 := K1.grown hg2 (fun e => by injection e with e; omega)
      have HI2 := Lib.hid (HIa.out.past hg2 hpw)
      have HO2 := Lib.hid (HOa.out.past hg2 hpw)
      have HC2 := Lib.hid hc2
      have HG2 := Lib.hid (grownBy_trans HGa.out hg2)
      have s2 := hg2.size
      clear K1 HIa HOa HCa HGa hc2 hg2
      rcases bb
      · have k0 := K2.cell 0; have k1 := K2.cell 1; have f1 := K2.frozen 1
        simp only [List.getElem?_cons_zero, List.getElem?_cons_succ] at k0 k1
        have k1d : w2.drew.cell? ⟨wr.heap.size, 1, none⟩ = some (.int .i64 xa) := k1
        have hlit := lit_ints w2.drew 3 [0, 0, 10, -10, 30, -30, 80, -80]
        have bd : Below w2.heap.size w2 w2.drew := below_drewN (Below.refl _ _) 1
        have gd : w2.grownBy (w2.drew.alloc (.cells ⟨([0, 0, 10, -10, 30, -30, 80, -80] : List Int).map fun x => Value.int .i64 x⟩ 3)) (some p) := grownBy_trans (grown_any bd _) (World.grownBy_alloc _ _ _)
        have hlt2 := HC2.out.lt
        go_upto_region 6 with fail
        have kla : (w2.drew.alloc (.cells #[.int .i64 0, .int .i64 0, .int .i64 10, .int .i64 (-10), .int .i64 30, .int .i64 (-30), .int .i64 80, .int .i64 (-80)] 3)).cell? ⟨wr.heap.size, 1, none⟩ = some (.int .i64 xa) := ((K2.drewN 1).alloc (.cells #[.int .i64 0, .int .i64 0, .int .i64 10, .int .i64 (-10), .int .i64 30, .int .i64 (-30), .int .i64 80, .int .i64 (-80)] 3)).cell 1
        have hlt3 : wr.heap.size < w2.heap.size := by omega
        have hne3 : ¬ wr.heap.size = w2.heap.size := by omega
        have hne3' : ¬ w2.heap.size = wr.heap.size := by omega
        go_region_with (first | (go_at_call 45; go_must (refine (cur_among HS.out (G.out _ (grownBy_trans HG2.out gd)) hp ((HC2.out.up bd).up ((Below.refl _ _).alloc (Nat.le_refl _) _)) (by omega) rfl hlit (by decide) (by decide) (fun b o e => by injection e with e; injection e with e; rw [← e]; show w2.heap.size ≠ p; omega)).mono ?_); rintro e w3 ⟨dd, hdd, rfl, hc3, hg3⟩; have g3 := grownBy_trans gd hg3; have K3 := K2.grown g3 (fun e => by injection e with e; omega); have k1e := K3.cell 1; have f1e := K3.frozen 1; simp only [List.getElem?_cons_zero, List.getElem?_cons_succ] at k1e; have bdd : -80 ≤ dd ∧ dd ≤ 80 := (by simp only [List.mem_cons, List.not_mem_nil, or_false] at hdd; omega); have gw : IntKind.i64.wrap (xa + dd) = xa + dd := wrap_id (by omega)) | (go_at_call 58; refine (spec_l1MostS _ _ _).mono ?_; rintro e w' ⟨rfl, rfl⟩))
        all_goals
          have g3' := grownBy_trans HG2.out g3
          have hyb : 0 ≤ max 0 (xa + dd) ∧ max 0 (xa + dd) ≤ 100000100 := by omega
          obtain ⟨ya, hya⟩ : ∃ ya, ya = max 0 (xa + dd) := ⟨_, rfl⟩
          rw [← hya] at hyb ⊢
          clear hya
          have qs := only_set w3 (p := ⟨wr.heap.size, 1, none⟩) (.int .i64 ya)
          have K4 := K3.set_ 1 (.int .i64 ya)
          have HC4 := Lib.hid (hc3.grown qs (fun e => by injection e with e; dsimp only at e; omega))
          have HG4 := Lib.hid (grow_own g3' qs (fun k e => by injection e with e; dsimp only at e; omega))
          have HI4 := Lib.hid ((HI2.out.past g3 hpw).kept qs (fun kk hkk e => by have := RI.out kk hkk; injection e with e; dsimp only at e; omega))
          have HO4 := Lib.hid ((HO2.out.past g3 hpw).kept qs (fun kk hkk e => by have := RO.out kk hkk; injection e with e; dsimp only at e; omega))
          clear K2 K3 kla k1d k1e f1e k0 k1 f1 hdd gw hc3 hg3 g3 g3' gd bd hlit HI2 HO2 HC2 HG2 qs hlt2
          obtain ⟨w4, hw4⟩ : ∃ u, u = w3.setCell ⟨wr.heap.size, 1, none⟩ (.int .i64 ya) := ⟨_, rfl⟩
          rw [← hw4] at K4 HC4 HG4 HI4 HO4 ⊢
          clear hw4
          have k0 := K4.cell 0; have k1 := K4.cell 1
          simp only [List.getElem?_cons_zero, List.getElem?_cons_succ, List.set_cons_zero, List.set_cons_succ] at k0 k1
          have hcp := HO4.out.cap
          have a4 : Below w4.heap.size w4 (w4.alloc (.cells #[.int .i64 xb, .int .i64 ya] 41)) := by (repeat' (first | (with_reducible exact Below.refl _ _) | (with_reducible assumption) | (with_reducible refine below_drewN ?_ _) | (with_reducible refine Below.drew ?_) | (with_reducible refine below_alloc ?_ _) | (with_reducible refine Below.alloc ?_ ?_ _) | (with_reducible refine Below.setCell ?_ ?_ _) | (with_reducible refine below_go ?_ (by with_reducible assumption)) | (with_reducible refine below_then (by with_reducible assumption) ?_ ?_) | go_size))
          have s4 := HG4.out.size
          have z4 := K4.lt
          go_wp2_with fail
          refine (spec_l21Merge (m := 1) (d := 1) (l2 := [(xb, ya)]) HO4.out.len (HO4.out.recs.up a4) rfl (lit_strike w4 xb ya) (by omega) hcp.1 (Nat.le_refl _) hcp.2 (by decide)).mono ?_; rintro e w5 ⟨A5, c5, rfl, ho5, hb5⟩
          have hb5' := below_go a4 hb5
          have HO5 := Lib.hid (ho5.base_le (show w.heap.size ≤ _ by simp; omega))
          have HI5 := Lib.hid (HI4.out.up hb5')
          have HC5 := Lib.hid (HC4.out.up hb5')
          have HG5 := Lib.hid (grownBy_trans HG4.out (grown_any hb5' (some p)))
          have K5 := K4.up hb5'
          have HZ5 : stkL (List.merge L [(xb, ya)] leT) := mg_mem (a := L) (b := [(xb, ya)]) HZ (fun s hs => by rw [List.mem_singleton.1 hs]; exact ⟨hxz.1, by dsimp only; omega⟩)
          obtain ⟨L5, hL5⟩ : ∃ L5, L5 = List.merge L [(xb, ya)] leT := ⟨_, rfl⟩
          rw [← hL5] at HO5 HZ5
          clear hL5 ho5 hb5 hb5' HI4 HC4 HG4 HO4 K4 k0 k1 hcp a4
          go_wp2_with fail
          refine (cur_one HS.out (G.out _ HG5.out) hp HC5.out (by omega) (by decide) (by decide)).mono ?_; rintro e w6 ⟨b2, rfl, hc6, hg6⟩
          have K6 := K5.grown hg6 (fun e => by injection e with e; omega)
          have HI6 := Lib.hid (HI5.out.past hg6 hpw)
          have HO6 := Lib.hid (HO5.out.past hg6 hpw)
          have HC6 := Lib.hid hc6
          have HG6 := Lib.hid (grownBy_trans HG5.out hg6)
          clear HI5 HO5 HC5 HG5 K5 hc6 hg6
          rcases b2
          · go_wp2
            go_roundw
            case rel => exact ⟨k + 1, m' + 1, A5, c5, L5, by omega, by go_num, rfl, by omega, HZ5, HI6, HO6, Lib.hid (HC6.out.mono (by omega)), HG6⟩
            case measure => simp [intOf]; omega
          · have k0 := K6.cell 0; have k1 := K6.cell 1
            simp only [List.getElem?_cons_zero, List.getElem?_cons_succ, List.set_cons_zero, List.set_cons_succ] at k0 k1
            have hcp := HO6.out.cap
            have a6 : Below w6.heap.size w6 (w6.alloc (.cells #[.int .i64 xb, .int .i64 (ya + 60)] 41)) := by (repeat' (first | (with_reducible exact Below.refl _ _) | (with_reducible assumption) | (with_reducible refine below_drewN ?_ _) | (with_reducible refine Below.drew ?_) | (with_reducible refine below_alloc ?_ _) | (with_reducible refine Below.alloc ?_ ?_ _) | (with_reducible refine Below.setCell ?_ ?_ _) | (with_reducible refine below_go ?_ (by with_reducible assumption)) | (with_reducible refine below_then (by with_reducible assumption) ?_ ?_) | go_size))
            have s6 := HG6.out.size
            go_wp2_with fail
            refine (spec_l21Merge (m := 1) (d := 1) (l2 := [(xb, ya + 60)]) HO6.out.len (HO6.out.recs.up a6) rfl (lit_strike w6 xb (ya + 60)) (by omega) hcp.1 (Nat.le_refl _) hcp.2 (by decide)).mono ?_; rintro e w7 ⟨A7, c7, rfl, ho7, hb7⟩
            have hb7' := below_go a6 hb7
            have HO7 := Lib.hid (ho7.base_le (show w.heap.size ≤ _ by simp; omega))
            have HI7 := Lib.hid (HI6.out.up hb7')
            have HC7 := Lib.hid (HC6.out.up hb7')
            have HG7 := Lib.hid (grownBy_trans HG6.out (grown_any hb7' (some p)))
            have HZ7 : stkL (List.merge L5 [(xb, ya + 60)] leT) := mg_mem (a := L5) (b := [(xb, ya + 60)]) HZ5 (fun s hs => by rw [List.mem_singleton.1 hs]; exact ⟨hxz.1, by dsimp only; omega⟩)
            clear ho7 hb7 hb7' HI6 HC6 HG6 HO6 K6 k0 k1 hcp a6
            go_wp2
            go_roundw
            case rel => exact ⟨k + 1, m' + 1 + 1, A7, c7, _, by omega, by go_num, rfl, by omega, HZ7, HI7, HO7, Lib.hid (HC7.out.mono (by omega)), HG7⟩
            case measure => simp [intOf]; omega
      · go_wp2
        go_roundw
        case rel => exact ⟨k + 1, m', A2, c2, L, by omega, by go_num, rfl, by omega, HZ, HI2, HO2, Lib.hid (HC2.out.mono (by omega)), HG2⟩
        case measure => simp [intOf]; omega
    · have hI : ¬ (k : Int) < (MI : Int) := by omega
      go_wp2
      go_ret
      exact ⟨_, _, _, rfl, by omega, L, HZ, HO.out, HC.out.mono (by omega), HG.out⟩
set_option maxHeartbeats 1000000 in
set_option maxRecDepth 100000 in
theorem cur_anyStruck {A : Option Addr} {n c a p : Nat} {w0 w : World} (hS : Src w0 A n) (hb : Below w0.heap.size w0 w) (hp : w0.heap.size ≤ p) (hc : Cur w p A n c a) (ha : a ≤ 800000) :
    Calls Tryd.prog 38 #[.pointer (some ⟨p, 0, none⟩)] w fun e w' => ∃ A' m' c' L, e = .returned (.slice A' m' c') ∧ m' ≤ 192 ∧ Owned strikeE 2 41 w' w.heap.size A' m' c' L ∧ Cur w' p A n c (a + 700) ∧ w.grownBy w' (some p) := by
  have hpw := hc.lt
  have G : Hid (∀ u : World, w.grownBy u (some p) → Below w0.heap.size w0 u) := Lib.hid (fun u hg => grown_below hb hp hg)
  have HS := Lib.hid hS
  go_in
  go_wp2_with fail
  refine (cur_rungFew hS hb hp hc (by omega)).mono ?_; rintro e w1 ⟨A1, m1, c1, L1, rfl, hm1, hd1, ho1, hc1, hg1⟩
  have hd := Lib.hid hd1
  have s1 := hg1.size
  clear hd1 hS hb hc
  go_wp2_with fail
  refine (cur_struck (x := 100) (y := 200) (z := 200) HS.out (G.out _ hg1) hp hc1 (by omega) (by omega) (by omega) (by omega) ho1.len ho1.recs hm1 hd.out).mono ?_; rintro e w2 ⟨A2, m2, c2, L2, rfl, hm2, HZ2, ho2, hc2, hg2⟩
  have HO2 := Lib.hid (ho2.base_le s1)
  have HC2 := Lib.hid hc2
  have HG2 := Lib.hid (grownBy_trans hg1 hg2)
  have s2 := HG2.out.size
  clear hd HZ2 ho1 ho2 hc1 hc2 hg1 hg2
  by_cases h0 : 0 < m2
  · have hI : (0 : Int) < (m2 : Int) := by omega
    go_wp2_with fail
    refine (cur_pick HS.out (G.out _ HG2.out) hp HC2.out (by omega) (by omega) (by omega)).mono ?_; rintro e w3 ⟨k, rfl, ⟨k0, k1⟩, hc3, hg3⟩
    obtain ⟨K, rfl⟩ := Int.eq_ofNat_of_zero_le k0
    have hK : K < m2 := by omega
    have HO3 := Lib.hid (HO2.out.past hg3 hpw)
    have HG3 := Lib.hid (grownBy_trans HG2.out hg3)
    clear k0 k1 HO2 HG2 HC2 hg3
    go_wp2_with fail
    refine (cur_pick HS.out (G.out _ HG3.out) hp hc3 (by omega) (by decide) (by decide)).mono ?_; rintro e w4 ⟨q, rfl, ⟨q0, q1⟩, hc4, hg4⟩
    obtain ⟨Q, rfl⟩ := Int.eq_ofNat_of_zero_le q0
    have HO4 := Lib.hid (HO3.out.past hg4 hpw)
    have HC4 := Lib.hid hc4
    have HG4 := Lib.hid (grownBy_trans HG3.out hg4)
    clear q0 q1 HO3 HG3 hc3 hc4 hg4
    by_cases Q0 : Q = 0
    · subst Q0
      have hl := lit_ints w4 3 [0, 8, 9]
      have hpl := HC4.out.lt
      go_wp2_with fail
      refine (cur_among HS.out ((G.out _ HG4.out).alloc (G.out _ HG4.out).size _) hp (HC4.out.up ((Below.refl _ _).alloc (Nat.le_refl _) _)) (by omega) rfl hl (by decide) (by decide) (fun b o e => by injection e with e; injection e with e; omega)).mono ?_; rintro e w5 ⟨v, hv, rfl, hc5, hg5⟩
      have g5 := grownBy_trans (World.grownBy_alloc w4 _ (some p)) hg5
      have HO5 := Lib.hid (HO4.out.past g5 hpw)
      obtain ⟨⟨xb, xa⟩, hx⟩ := some_of_lt (l := L2) (k := K) (by rw [HO5.out.len]; exact hK)
      obtain ⟨f, rfl, f0, f1, fc, ff⟩ := HO5.out.at_ (by omega)
      have cf := fc K (xb, xa) 0 _ hx rfl
      have zf := ff (K * 2 + 0)
      have pt := HO5.out.put (k := K) (j := 0) (x := (v, xa)) (u := .int .i64 v) hx (by decide) rfl
      simp only [Nat.add_zero] at cf zf pt
      have HPT := Lib.hid pt
      have hKI : (K : Int) < (m2 : Int) := by omega
      clear fc ff hx pt hl hv
      go_wp2
      go_ret
      exact ⟨_, _, _, _, rfl, hm2, HPT.out.1, (hc5.grown HPT.out.2 (fun e => by injection e with e; omega)).mono (by omega), grow_own (grownBy_trans HG4.out g5) HPT.out.2 (fun k e => by injection e with e; omega)⟩
    · have Q0I : ¬ (Q : Int) = 0 := by omega
      by_cases Q1 : Q = 1
      · subst Q1
        have hl := lit_ints w4 3 [-1, 0, 1000000, 1000001]
        have hpl := HC4.out.lt
        go_wp2_with fail
        refine (cur_among HS.out ((G.out _ HG4.out).alloc (G.out _ HG4.out).size _) hp (HC4.out.up ((Below.refl _ _).alloc (Nat.le_refl _) _)) (by omega) rfl hl (by decide) (by decide) (fun b o e => by injection e with e; injection e with e; omega)).mono ?_; rintro e w5 ⟨v, hv, rfl, hc5, hg5⟩
        have g5 := grownBy_trans (World.grownBy_alloc w4 _ (some p)) hg5
        have HO5 := Lib.hid (HO4.out.past g5 hpw)
        obtain ⟨⟨xb, xa⟩, hx⟩ := some_of_lt (l := L2) (k := K) (by rw [HO5.out.len]; exact hK)
        obtain ⟨f, rfl, f0, f1, fc, ff⟩ := HO5.out.at_ (by omega)
        have cf := fc K (xb, xa) 1 _ hx rfl
        have zf := ff (K * 2 + 1)
        have pt := HO5.out.put (k := K) (j := 1) (x := (xb, v)) (u := .int .i64 v) hx (by decide) rfl
        skip
        have HPT := Lib.hid pt
        have hKI : (K : Int) < (m2 : Int) := by omega
        clear fc ff hx pt hl hv
        go_wp2
        go_ret
        exact ⟨_, _, _, _, rfl, hm2, HPT.out.1, (hc5.grown HPT.out.2 (fun e => by injection e with e; omega)).mono (by omega), grow_own (grownBy_trans HG4.out g5) HPT.out.2 (fun k e => by injection e with e; omega)⟩
      · have Q1I : ¬ (Q : Int) = 1 := by omega
        go_wp2
        go_ret
        exact ⟨_, _, _, L2, rfl, hm2, HO4.out, HC4.out.mono (by omega), HG4.out⟩
  · have hI : ¬ (0 : Int) < (m2 : Int) := by omega
    obtain rfl : m2 = 0 := by omega
    go_wp2
    go_ret
    exact ⟨_, _, _, L2, rfl, by omega, HO2.out, HC2.out.mono (by omega), HG2.out⟩
end Go.Proofs.YtpccbmndgdiloaaDoor
/- Strikes cut into rows: plain; a stretch of a list of structs. -/
namespace Go.Proofs.YtpccbmndgdiloaaDoor
set_option linter.unusedVariables false
set_option linter.unusedSimpArgs false
open Go.ChangeShapes Go.WideShapes Go.ChangeAt Go.RowKit Go.Deep
theorem Recs.sub {α : Type} {e : α → List Value} {s : Nat} {w : World} {b o : Nat} {l : List α} (h : Recs e s w (some ⟨b, o, none⟩) l) {i n : Nat} (hin : i + n ≤ l.length) : Recs e s w (some ⟨b, o + i * s, none⟩) ((l.drop i).take n) := by
  have hl : ((l.drop i).take n).length = n := by simp; omega
  have h1 : (((l.drop i).take n).flatMap e).length = n * s := by rw [flatMap_len h.1, hl]
  refine ⟨h.1, by rw [hl]; exact h1, fun hn => ?_⟩
  rw [hl] at hn
  obtain ⟨b', o', hA, hb, hc⟩ := h.2.2 (by omega)
  injection hA with hA
  injection hA with e1 e2 _
  subst e1 e2
  refine ⟨b, o + i * s, rfl, hb, fun j u hu => ?_⟩
  rw [Nat.add_assoc]
  refine hc (i * s + j) u ?_
  have hj : j < n * s := by rw [← h1]; exact (List.getElem?_eq_some_iff.1 hu).1
  have e3 : l.flatMap e = (l.take i).flatMap e ++ (((l.drop i).take n).flatMap e ++ ((l.drop i).drop n).flatMap e) := by
    rw [← List.flatMap_append, ← List.flatMap_append, List.take_append_drop, List.take_append_drop]
  have e4 : ((l.take i).flatMap e).length = i * s := by rw [flatMap_len h.1, List.length_take, Nat.min_eq_left (by omega)]
  rw [e3, List.getElem?_append_right (by omega), e4, Nat.add_sub_cancel_left, List.getElem?_append_left (by omega)]
  exact hu
/-- The row that some strikes ring. -/
def rowB (l : List (Int × Int)) : ByteArray := strOfNums (l.map fun x => 48 + x.1)
theorem rowB_0 : rowB [] = ⟨#[]⟩ := rfl
theorem rowB_snoc (l : List (Int × Int)) (x : Int × Int) : rowB (l ++ [x]) = rowB l ++ dig1 x.1 := by
  rw [rowB, rowB, dig1, strOf_append, List.map_append]; rfl
theorem rowB_size (l : List (Int × Int)) : (rowB l).size = l.length := by rw [rowB, strOfNums_size, List.length_map]
def cutAt (l : List (Int × Int)) (n k : Nat) : ByteArray := rowB ((l.drop (k * n)).take n)
def cutAll (l : List (Int × Int)) (n : Nat) : Bool := (List.range (l.length / n)).all fun k => goodRow (cutAt l n k)
def cutOk (l : List (Int × Int)) (n : Int) : Bool := (goodStrikes l && inB n 3 8) && cutAll l n.toNat
def cutL (l : List (Int × Int)) (n : Int) : List ByteArray := if cutOk l n = true then (List.range (l.length / n.toNat)).map (cutAt l n.toNat) else []
theorem cutL_f {l : List (Int × Int)} {n : Int} (h : cutOk l n = false) : cutL l n = [] := if_neg (by rw [h]; simp)
theorem cutL_t {l : List (Int × Int)} {n : Nat} (h : cutOk l n = true) : cutL l n = (List.range (l.length / n)).map (cutAt l n) := if_pos h
def cutR (l : List (Int × Int)) (n k : Nat) : List ByteArray := (List.range k).map (cutAt l n)
theorem cutR_succ (l : List (Int × Int)) (n k : Nat) : cutR l n (k + 1) = cutR l n k ++ [cutAt l n k] := by rw [cutR, List.range_succ, List.map_append]; rfl
theorem cut_bad {l : List (Int × Int)} {n k : Nat} (hk : k < l.length / n) (h : goodRow (cutAt l n k) = false) : cutAll l n = false := by
  rcases q : cutAll l n
  · rfl
  · rw [cutAll, List.all_eq_true] at q
    rw [q k (List.mem_range.2 hk)] at h; cases h
theorem cut_good {l : List (Int × Int)} {n : Nat} (h : ∀ k, k < l.length / n → goodRow (cutAt l n k) = true) : cutAll l n = true := by
  rw [cutAll, List.all_eq_true]
  exact fun k hk => h k (List.mem_range.1 hk)
theorem cut_step {a n k : Nat} (hn : 0 < n) : k * n + n ≤ a ↔ k < a / n := by
  rw [Nat.lt_div_iff_mul_lt hn]
  constructor
  · intro h
    have : n * k + n ≤ a := by rw [Nat.mul_comm]; exact h
    omega
  · intro h
    have h2 : (k + 1) * n ≤ a := by
      have := (Nat.le_div_iff_mul_le hn (x := k + 1) (y := a)).1 (by
        have := (Nat.lt_div_iff_mul_lt hn (x := k) (y := a)).2 h
        omega)
      exact this
    rw [Nat.succ_mul] at h2
    exact h2
end Go.Proofs.YtpccbmndgdiloaaDoor
/- Ideal strikes give the rows back, each blow at its time, each bell once in a row: in plain Lean. -/
namespace Go.Proofs.YtpccbmndgdiloaaDoor
set_option linter.unusedVariables false
set_option linter.unusedSimpArgs false
theorem digs_txt (c : ByteArray) : strOfNums ((digs c).map fun x => 48 + x) = c := by
  apply nums_inj
  rw [nums_strOf]
  · rw [digs, List.map_map, nums]
    exact List.map_congr_left fun k _ => by simp only [Function.comp_apply, dg]; omega
  · intro x hx
    rw [digs, List.map_map, List.mem_map] at hx
    obtain ⟨k, _, rfl⟩ := hx
    have := PlainAid.bt_nonneg c k; have := PlainAid.bt_le c k
    simp only [Function.comp_apply, dg]; omega
theorem goodRows_sz2 {l : List ByteArray} (h : goodRows l = true) {i j : Nat} {x y : ByteArray} (hx : l[i]? = some x) (hy : l[j]? = some y) : x.size = y.size := by
  rw [goodRows, Bool.and_eq_true, List.all_eq_true] at h
  have key : ∀ (k : Nat) (z : ByteArray), l[k]? = some z → z.size = (l.getD 0 ByteArray.empty).size := fun k z hz => by
    have := h.1 k (List.mem_range.2 (List.getElem?_eq_some_iff.1 hz).1)
    rw [okRow, Bool.and_eq_true, List.getD, hz] at this
    simpa using this.2
  rw [key i x hx, key j y hy]
section
variable {x y z : Int} {L : List ByteArray} {n : Nat}
theorem rowStr_len (x y z : Int) (r : ByteArray) (k p : Nat) : (rowStr x y z r k p).length = p := by simp [rowStr]
theorem rowStr_at {r : ByteArray} {k p q : Nat} (h : q < p) : (rowStr x y z r k p)[q]? = some (dg r q, blowAtZ x y z r.size k ((q : Int) + 1)) := by
  rw [rowStr, List.getElem?_map, List.getElem?_range h]; rfl
theorem idl_n (hs : ∀ s ∈ L, s.size = n) : ∀ k, k ≤ L.length → (idl x y z L k).length = k * n
  | 0, _ => by rw [idl_zero, Nat.zero_mul]; rfl
  | k + 1, hk => by
    obtain ⟨r, hr⟩ := some_of_lt (l := L) (k := k) (by omega)
    rw [idl_succ hr, List.length_append, rowStr_len, idl_n hs k (by omega), hs r (List.mem_of_getElem? hr), Nat.succ_mul]
theorem idl_at (hs : ∀ s ∈ L, s.size = n) {i p : Nat} {r : ByteArray} (hr : L[i]? = some r) (hp : p < n) : ∀ k, k ≤ L.length → i < k → (idl x y z L k)[i * n + p]? = some (dg r p, blowAtZ x y z n i ((p : Int) + 1))
  | 0, _, h => by omega
  | k + 1, hk, h => by
    obtain ⟨r2, hr2⟩ := some_of_lt (l := L) (k := k) (by omega)
    have hl := idl_n (x := x) (y := y) (z := z) hs k (by omega)
    rw [idl_succ hr2]
    by_cases e : i = k
    · subst e
      rw [hr] at hr2
      injection hr2 with hr2
      subst hr2
      rw [List.getElem?_append_right (by omega), hl, Nat.add_sub_cancel_left, hs r (List.mem_of_getElem? hr), rowStr_at hp, hs r (List.mem_of_getElem? hr)]
    · have h1 : (i + 1) * n ≤ k * n := Nat.mul_le_mul_right _ (by omega)
      rw [Nat.succ_mul] at h1
      rw [List.getElem?_append_left (by omega)]
      exact idl_at hs hr hp k (by omega) (by omega)
theorem cut_idl (hs : ∀ s ∈ L, s.size = n) {i : Nat} {r : ByteArray} (hr : L[i]? = some r) : cutAt (idl x y z L L.length) n i = r := by
  have hi := (List.getElem?_eq_some_iff.1 hr).1
  have hrn := hs r (List.mem_of_getElem? hr)
  have e : ((idl x y z L L.length).drop (i * n)).take n = rowStr x y z r i n := by
    apply List.ext_getElem?
    intro p
    by_cases hp : p < n
    · rw [List.getElem?_take_of_lt hp, List.getElem?_drop, idl_at hs hr hp _ (Nat.le_refl _) hi, rowStr_at hp, hrn]
    · rw [List.getElem?_eq_none (by rw [List.length_take]; omega), List.getElem?_eq_none (by rw [rowStr_len]; omega)]
  rw [cutAt, e, rowB, rowStr, List.map_map]
  conv => rhs; rw [← digs_txt r, digs, hrn, List.map_map]
  rfl
theorem one_bell {r : ByteArray} (hg : goodRow r = true) {b k : Nat} (h1 : 1 ≤ b) (h2 : b ≤ r.size) : ((rowStr x y z r k r.size).filter fun s => s.1 == (b : Int)).length = 1 := by
  have hr := goodRow_list hg
  have e : ((rowStr x y z r k r.size).filter fun s => s.1 == (b : Int)).length = (nums r).count (48 + (b : Int)) := by
    rw [rowStr, List.filter_map, List.length_map, nums, List.count_eq_length_filter, List.filter_map, List.length_map]
    congr 1
    apply List.filter_congr
    intro q _
    simp only [Function.comp_apply, dg]
    rw [Bool.eq_iff_iff, beq_iff_eq, beq_iff_eq]
    omega
  rw [e]
  have hm : (48 + (b : Int)) ∈ nums r := (isRowL_mem hr).2 (by rw [nums_len]; omega)
  have p1 := List.count_pos_iff.2 hm
  have p2 := List.nodup_iff_count.1 hr.1 (48 + (b : Int))
  omega
theorem bell_idl (hg : ∀ s ∈ L, goodRow s = true) (hs : ∀ s ∈ L, s.size = n) {b : Nat} (h1 : 1 ≤ b) (h2 : b ≤ n) : ∀ k, k ≤ L.length → ((idl x y z L k).filter fun s => s.1 == (b : Int)).length = k
  | 0, _ => rfl
  | k + 1, hk => by
    obtain ⟨r, hr⟩ := some_of_lt (l := L) (k := k) (by omega)
    have hm := List.mem_of_getElem? hr
    rw [idl_succ hr, List.filter_append, List.length_append, bell_idl hg hs h1 h2 k (by omega), one_bell (hg r hm) h1 (by rw [hs r hm]; exact h2)]
/-- What FnStrikes asks of the ideal strikes of n rows' bells. -/
theorem strikes_all {r0 : ByteArray} (h : idlOk x y z L = true) (h0 : L[0]? = some r0) :
    (3 ≤ r0.size ∧ r0.size ≤ 8) ∧ goodStrikes (idlR x y z L) = true ∧ (idlR x y z L).length = L.length * r0.size ∧ L.length ≤ 800 ∧
    cutOk (idlR x y z L) r0.size = true ∧ cutL (idlR x y z L) r0.size = L ∧
    (∀ k, k < (idlR x y z L).length → okBlow x y z r0.size ((k / r0.size : Nat) : Int) (((k % r0.size : Nat) : Int) + 1) = true ∧ ∃ d, (idlR x y z L)[k]? = some (d, blowV x y z r0.size ((k / r0.size : Nat) : Int) (((k % r0.size : Nat) : Int) + 1))) ∧
    (∀ k d e v u, (idlR x y z L)[k]? = some (d, v) → (idlR x y z L)[k + 1]? = some (e, u) → v + y ≤ u) ∧
    (∀ b : Nat, 1 ≤ b → b ≤ r0.size → bellOk (idlR x y z L) b = true ∧ (bellR (idlR x y z L) b).length = L.length) := by
  have hh := h
  simp only [idlOk, Bool.and_eq_true] at hh
  obtain ⟨hb, hgr, hgs⟩ := hh
  rw [idlR_t h]
  have hn := goodRow_n (goodRows_mem hgr r0 (List.mem_of_getElem? h0))
  have hs : ∀ s ∈ L, s.size = r0.size := fun s hs => by
    obtain ⟨k, hk⟩ := List.getElem?_of_mem hs
    exact goodRows_sz2 hgr hk h0
  have hg := goodRows_mem hgr
  obtain ⟨n, hnn⟩ : ∃ n, n = r0.size := ⟨_, rfl⟩
  rw [← hnn] at hn hs ⊢
  have hl := idl_n (x := x) (y := y) (z := z) hs L.length (Nat.le_refl _)
  have hl8 := goodRows_len hgr
  have hL0 : 0 < L.length := (List.getElem?_eq_some_iff.1 h0).1
  obtain ⟨⟨bx0, bx1⟩, ⟨by0, by1⟩, bz0, bz1⟩ := goodBeat_t hb
  have hdiv : (idl x y z L L.length).length / n = L.length := by rw [hl]; exact Nat.mul_div_cancel _ (by omega)
  have hco : cutOk (idl x y z L L.length) n = true := by
    rw [cutOk, hgs, Bool.true_and, Bool.and_eq_true, inB, decide_eq_true_iff]
    refine ⟨by omega, cut_good fun k hk => ?_⟩
    rw [Int.toNat_natCast, hdiv] at hk
    obtain ⟨r, hr⟩ := some_of_lt hk
    rw [Int.toNat_natCast, cut_idl hs hr]
    exact hg r (List.mem_of_getElem? hr)
  have hat : ∀ k, k < (idl x y z L L.length).length → ∃ d, (idl x y z L L.length)[k]? = some (d, blowAtZ x y z n ((k / n : Nat) : Int) (((k % n : Nat) : Int) + 1)) := fun k hk => by
    have hi : k / n < L.length := by rw [← hdiv]; exact Nat.div_lt_div_of_lt_of_dvd (by rw [hl]; exact Nat.dvd_mul_left n _) hk
    obtain ⟨r, hr⟩ := some_of_lt hi
    have := idl_at (x := x) (y := y) (z := z) hs hr (Nat.mod_lt k (by omega : 0 < n)) _ (Nat.le_refl _) hi
    rw [Nat.div_add_mod' k n] at this
    exact ⟨_, this⟩
  have hok : ∀ k, k < (idl x y z L L.length).length → okBlow x y z n ((k / n : Nat) : Int) (((k % n : Nat) : Int) + 1) = true := fun k hk => by
    have hi : k / n < L.length := by rw [← hdiv]; exact Nat.div_lt_div_of_lt_of_dvd (by rw [hl]; exact Nat.dvd_mul_left n _) hk
    have hm := Nat.mod_lt k (by omega : 0 < n)
    obtain ⟨q, hq⟩ : ∃ q, q = k / n := ⟨_, rfl⟩
    obtain ⟨m, hmm⟩ : ∃ m, m = k % n := ⟨_, rfl⟩
    rw [← hq] at hi ⊢
    rw [← hmm] at hm ⊢
    rw [okBlow, hb, Bool.true_and, inB, inB, inB, decide_eq_true (by omega), decide_eq_true (by omega), decide_eq_true (by omega)]; rfl
  refine ⟨hn, hgs, hl, hl8, hco, ?_, fun k hk => ⟨hok k hk, ?_⟩, fun k d e v u h1 h2 => ?_, fun b h1 h2 => ?_⟩
  · rw [cutL_t hco, hdiv]
    exact (marks_eq (fun j hj => by
      obtain ⟨r, hr⟩ := some_of_lt hj
      rw [hr, cut_idl hs hr]) rfl).symm
  · obtain ⟨d, hd⟩ := hat k hk
    exact ⟨d, by rw [blowV_t (hok k hk)]; exact hd⟩
  · have hk1 := (List.getElem?_eq_some_iff.1 h1).1
    have hk2 := (List.getElem?_eq_some_iff.1 h2).1
    obtain ⟨d1, e1⟩ := hat k hk1
    obtain ⟨d2, e2⟩ := hat (k + 1) hk2
    rw [h1] at e1
    rw [h2] at e2
    injection e1 with e1
    injection e2 with e2
    injection e1 with _ e1
    injection e2 with _ e2
    rw [e1, e2]
    have hm := Nat.mod_lt k (by omega : 0 < n)
    have hdm := Nat.div_add_mod' k n
    by_cases hc : k % n + 1 < n
    · have q1 : (k + 1) / n = k / n := by
        rw [show k + 1 = k % n + 1 + k / n * n by omega, Nat.add_mul_div_right _ _ (by omega), Nat.div_eq_of_lt hc, Nat.zero_add]
      have q2 : (k + 1) % n = k % n + 1 := by
        rw [show k + 1 = k % n + 1 + k / n * n by omega, Nat.add_mul_mod_self_right, Nat.mod_eq_of_lt hc]
      rw [q1, q2, blowAtZ, blowAtZ]
      have q3 : y * ((n : Int) * ((k / n : Nat) : Int) + (((k % n + 1 : Nat) : Int) + 1) - 1) = y * ((n : Int) * ((k / n : Nat) : Int) + (((k % n : Nat) : Int) + 1) - 1) + y := by
        rw [show (n : Int) * ((k / n : Nat) : Int) + (((k % n + 1 : Nat) : Int) + 1) - 1 = ((n : Int) * ((k / n : Nat) : Int) + (((k % n : Nat) : Int) + 1) - 1) + 1 by omega, Int.mul_add, Int.mul_one]
      omega
    · have q0 : k % n + 1 = n := by omega
      have q1 : (k + 1) / n = k / n + 1 := by
        rw [show k + 1 = 0 + (k / n + 1) * n by rw [Nat.succ_mul]; omega, Nat.add_mul_div_right _ _ (by omega), Nat.zero_div, Nat.zero_add]
      have q2 : (k + 1) % n = 0 := by
        rw [show k + 1 = 0 + (k / n + 1) * n by rw [Nat.succ_mul]; omega, Nat.add_mul_mod_self_right, Nat.zero_mod]
      rw [q1, q2, blowAtZ, blowAtZ]
      have q3 : (n : Int) * ((k / n + 1 : Nat) : Int) = (n : Int) * ((k / n : Nat) : Int) + (n : Int) := by
        rw [show ((k / n + 1 : Nat) : Int) = ((k / n : Nat) : Int) + 1 by omega, Int.mul_add, Int.mul_one]
      have q4 : y * ((n : Int) * ((k / n + 1 : Nat) : Int) + (((0 : Nat) : Int) + 1) - 1) = y * ((n : Int) * ((k / n : Nat) : Int) + (((k % n : Nat) : Int) + 1) - 1) + y := by
        rw [q3, show (n : Int) * ((k / n : Nat) : Int) + (n : Int) + (((0 : Nat) : Int) + 1) - 1 = ((n : Int) * ((k / n : Nat) : Int) + (((k % n : Nat) : Int) + 1) - 1) + 1 by omega, Int.mul_add, Int.mul_one]
      have q5 : z * (((k / n : Nat) : Int) / 2) ≤ z * (((k / n + 1 : Nat) : Int) / 2) := Int.mul_le_mul_of_nonneg_left (by omega) bz0
      omega
  · have hbo : bellOk (idl x y z L L.length) b = true := by rw [bellOk, hgs, Bool.true_and, inB, decide_eq_true_iff]; omega
    refine ⟨hbo, ?_⟩
    rw [bellR_t hbo, ofBellR, List.length_map]
    exact bell_idl hg hs h1 h2 _ (Nat.le_refl _)
end
end Go.Proofs.YtpccbmndgdiloaaDoor
/- The walks through the draws of ideal strikes, cut rows, one bell's times, a blow. -/
namespace Go.Proofs.YtpccbmndgdiloaaDoor
set_option linter.unusedVariables false
set_option linter.unusedSimpArgs false
open Go.ChangeShapes Go.WideShapes Go.ChangeAt Go.RowKit Go.Deep
set_option maxHeartbeats 1000000 in
set_option maxRecDepth 100000 in
theorem draw_IdealStrikes {A : Option Addr} {n c : Nat} {w : World} (hS : Src w A n) :
    Calls Tryd.prog 5 #[.slice A n c] w fun e w' => ∃ (x y z : Int) (A1 : Option Addr) (n1 c1 : Nat) (L1 : List ByteArray), e = .returned (.tuple #[.agg #[.int .i64 x, .int .i64 y, .int .i64 z], .slice A1 n1 c1]) ∧ L1.length = n1 ∧ n1 ≤ 12 ∧ (∀ s ∈ L1, s.size ≤ 16777216) ∧ Strs w' A1 L1 ∧ Below w.heap.size w w' := by
  have R0 := Blk.at_ w 25 [.int .i64 0, .int .i64 0, .int .i64 0] (b := w.heap.size) rfl
  have a0 : Below w.heap.size w (w.alloc (.cells #[.int .i64 0, .int .i64 0, .int .i64 0] 25)) := by (repeat' (first | (with_reducible exact Below.refl _ _) | (with_reducible assumption) | (with_reducible refine below_drewN ?_ _) | (with_reducible refine Below.drew ?_) | (with_reducible refine below_alloc ?_ _) | (with_reducible refine Below.alloc ?_ ?_ _) | (with_reducible refine Below.setCell ?_ ?_ _) | (with_reducible refine below_go ?_ (by with_reducible assumption)) | (with_reducible refine below_then (by with_reducible assumption) ?_ ?_) | go_size))
  go_in
  go_upto_region 1 with fail
  obtain ⟨v0, hv0⟩ : ∃ u, u = w.alloc (.cells #[.int .i64 0, .int .i64 0, .int .i64 0] 25) := ⟨_, rfl⟩
  have z0 : w.heap.size < v0.heap.size := by rw [hv0]; simp
  rw [← hv0] at R0 a0 ⊢
  clear hv0
  have hS0 := Lib.hid (hS.over a0)
  have b1 : Below v0.heap.size v0 (v0.alloc (.cells #[.slice A n c, .int .i64 0, .int .u64 0] 53)) := by (repeat' (first | (with_reducible exact Below.refl _ _) | (with_reducible assumption) | (with_reducible refine below_drewN ?_ _) | (with_reducible refine Below.drew ?_) | (with_reducible refine below_alloc ?_ _) | (with_reducible refine Below.alloc ?_ ?_ _) | (with_reducible refine Below.setCell ?_ ?_ _) | (with_reducible refine below_go ?_ (by with_reducible assumption)) | (with_reducible refine below_then (by with_reducible assumption) ?_ ?_) | go_size))
  have c1 := cur_fresh v0 A n c
  have R1 := R0.up b1
  go_upto_region 2 with fail
  obtain ⟨v1, hv1⟩ : ∃ u, u = v0.alloc (.cells #[.slice A n c, .int .i64 0, .int .u64 0] 53) := ⟨_, rfl⟩
  have z1 : v0.heap.size < v1.heap.size := by rw [hv1]; simp
  rw [← hv1] at R1 b1 c1 ⊢
  clear hv1 R0 hS
  go_wp2_with fail
  refine (cur_beat hS0.out b1 (Nat.le_refl _) c1 (by omega)).mono ?_; rintro e w2 ⟨x, y, z, rfl, hx, hy, hz, hc2, hg2⟩
  have R2 := R1.grown hg2 (fun e => by injection e with e; omega)
  have HC2 := Lib.hid hc2
  have HB2 := Lib.hid (grown_below b1 (Nat.le_refl _) hg2)
  have s2 := hg2.size
  clear hc2 hg2 R1 c1 b1
  go_wp2_with fail
  refine (cur_rungFew hS0.out HB2.out (Nat.le_refl _) HC2.out (by omega)).mono ?_; rintro e w4 ⟨A4, m4, c4, L4, rfl, hm4, hd4, ho4, hc4, hg4⟩
  have R4 := R2.grown hg4 (fun e => by injection e with e; omega)
  have HD4 := Lib.hid hd4
  have HL4 := Lib.hid ho4.len
  have u0 := R4.cell 0; have u1 := R4.cell 1; have u2 := R4.cell 2; have f0 := R4.frozen 0; have f1 := R4.frozen 1; have f2 := R4.frozen 2
  simp only [List.getElem?_cons_zero, List.getElem?_cons_succ] at u0 u1 u2
  have q1 := sets3_grown w4 w.heap.size (.int .i64 x) (.int .i64 y) (.int .i64 z)
  have R8 := ((R4.set_ 0 (.int .i64 x)).set_ 1 (.int .i64 y)).set_ 2 (.int .i64 z)
  have e0 := R8.cell 0; have e1 := R8.cell 1; have e2 := R8.cell 2
  simp only [List.getElem?_cons_zero, List.getElem?_cons_succ, List.set_cons_zero, List.set_cons_succ] at e0 e1 e2
  have HO8 := Lib.hid (ho4.past q1 (by omega))
  have HBF := Lib.hid ((below_go a0 (grown_below HB2.out (Nat.le_refl _) hg4)).grown q1 (by have := hg4.size; omega) (fun k e => by injection e with e; omega))
  clear R8 q1 R4 R2 HC2 HB2 hd4 ho4 hc4 hg4
  go_wp2_with fail
  refine bodyPost_ret (v := .tuple #[.agg #[.int .i64 x, .int .i64 y, .int .i64 z], .slice A4 m4 c4]) (by simp [results, Tryd.results5, go_sem, e0, e1, e2]) rfl ?_
  exact ⟨x, y, z, A4, m4, c4, L4, rfl, HL4.out, hm4, fun s hs => Nat.le_trans (HD4.out s hs).1 (by decide), HO8.out.recs, HBF.out⟩
set_option maxHeartbeats 1000000 in
set_option maxRecDepth 100000 in
theorem draw_CutRows {A : Option Addr} {n c : Nat} {w : World} (hS : Src w A n) :
    Calls Tryd.prog 16 #[.slice A n c] w fun e w' => ∃ (A1 : Option Addr) (n1 c1 : Nat) (L1 : List (Int × Int)) (N : Nat), e = .returned (.tuple #[.slice A1 n1 c1, .int .i64 (N : Int)]) ∧ L1.length = n1 ∧ n1 ≤ 192 ∧ n1 ≤ c1 ∧ Recs strikeE 2 w' A1 L1 ∧ Below w.heap.size w w' := by
  have b0 : Below w.heap.size w (w.alloc (.cells #[.slice A n c, .int .i64 0, .int .u64 0] 53)) := by (repeat' (first | (with_reducible exact Below.refl _ _) | (with_reducible assumption) | (with_reducible refine below_drewN ?_ _) | (with_reducible refine Below.drew ?_) | (with_reducible refine below_alloc ?_ _) | (with_reducible refine Below.alloc ?_ ?_ _) | (with_reducible refine Below.setCell ?_ ?_ _) | (with_reducible refine below_go ?_ (by with_reducible assumption)) | (with_reducible refine below_then (by with_reducible assumption) ?_ ?_) | go_size))
  have c0 := cur_fresh w A n c
  go_in
  go_wp2_with fail
  obtain ⟨w1, hw1⟩ : ∃ u, u = w.alloc (.cells #[.slice A n c, .int .i64 0, .int .u64 0] 53) := ⟨_, rfl⟩
  rw [← hw1] at b0 c0 ⊢
  clear hw1
  have HS := Lib.hid hS
  have hlw := c0.lt
  clear hS
  refine (cur_rungFew HS.out b0 (Nat.le_refl _) c0 (by omega)).mono ?_; rintro e w2 ⟨A2, m2, c2, L2, rfl, hm2, hd2, ho2, hc2, hg2⟩
  have HB2 := Lib.hid (grown_below b0 (Nat.le_refl _) hg2)
  have HD2 := Lib.hid hd2
  have HL2 := Lib.hid ho2.len
  have HO2 := Lib.hid ho2
  have HC2 := Lib.hid hc2
  have s2 := HB2.out.size
  have s1 := hg2.size
  clear b0 c0 hd2 ho2 hc2 hg2
  by_cases h0 : 0 < m2
  · have hI : (0 : Int) < (m2 : Int) := by omega
    obtain ⟨b, o, r, rfl, hbb, hr, hcr⟩ := HO2.out.recs.at_str (k := 0) (by rw [HL2.out]; exact h0)
    have hr8 := (HD2.out r (List.mem_of_getElem? hr)).1
    simp only [Nat.add_zero] at hcr
    clear hr
    go_wp2_with fail
    refine (cur_one HS.out HB2.out (Nat.le_refl _) HC2.out (by omega) (by decide) (by decide)).mono ?_; rintro e w3 ⟨bb, rfl, hc3, hg3⟩
    have HO3 := Lib.hid (HO2.out.past hg3 hlw)
    have HB3 := Lib.hid (grown_below HB2.out (Nat.le_refl _) hg3)
    rcases bb
    · go_wp2_with fail
      refine (cur_anyStruck HS.out HB3.out (Nat.le_refl _) hc3 (by omega)).mono ?_; rintro e w4 ⟨A4, m4, c4, L4, rfl, hm4, ho4, hc4, hg4⟩
      go_wp2
      go_ret2
      exact ⟨A4, m4, c4, L4, r.size, rfl, ho4.len, hm4, ho4.cap.1, ho4.recs, grown_below HB3.out (Nat.le_refl _) hg4⟩
    · go_wp2_with fail
      refine (spec_l21IdealL (x := 0) (y := 200) (z := 0) HL2.out HO3.out.recs (by decide) (by decide) (by decide) (by have := HL2.out; omega) HD2.out).mono ?_; rintro e w4 ⟨A4, c4, rfl, ho4, _, hb4⟩
      have hil := idl_len (x := 0) (y := 200) (z := 0) (fun s hs => (HD2.out s hs).1) L2.length (Nat.le_refl _)
      obtain ⟨LI, hLI⟩ : ∃ LI, LI = idl 0 200 0 L2 L2.length := ⟨_, rfl⟩
      rw [← hLI] at ho4 hil
      rw [← hLI]
      have hil2 : LI.length ≤ 192 := by have := HL2.out; omega
      clear hLI hil
      go_wp2
      go_ret2
      exact ⟨A4, _, c4, LI, r.size, rfl, rfl, hil2, ho4.cap.1, ho4.recs, below_go HB3.out hb4⟩
  · have hI : ¬ (0 : Int) < (m2 : Int) := by omega
    go_wp2_with fail
    refine (cur_one HS.out HB2.out (Nat.le_refl _) HC2.out (by omega) (by decide) (by decide)).mono ?_; rintro e w3 ⟨bb, rfl, hc3, hg3⟩
    have HO3 := Lib.hid (HO2.out.past hg3 hlw)
    have HB3 := Lib.hid (grown_below HB2.out (Nat.le_refl _) hg3)
    rcases bb
    · go_wp2_with fail
      refine (cur_anyStruck HS.out HB3.out (Nat.le_refl _) hc3 (by omega)).mono ?_; rintro e w4 ⟨A4, m4, c4, L4, rfl, hm4, ho4, hc4, hg4⟩
      go_wp2
      go_ret2
      exact ⟨A4, m4, c4, L4, 4, rfl, ho4.len, hm4, ho4.cap.1, ho4.recs, grown_below HB3.out (Nat.le_refl _) hg4⟩
    · go_wp2_with fail
      refine (spec_l21IdealL (x := 0) (y := 200) (z := 0) HL2.out HO3.out.recs (by decide) (by decide) (by decide) (by have := HL2.out; omega) HD2.out).mono ?_; rintro e w4 ⟨A4, c4, rfl, ho4, _, hb4⟩
      have hil := idl_len (x := 0) (y := 200) (z := 0) (fun s hs => (HD2.out s hs).1) L2.length (Nat.le_refl _)
      obtain ⟨LI, hLI⟩ : ∃ LI, LI = idl 0 200 0 L2 L2.length := ⟨_, rfl⟩
      rw [← hLI] at ho4 hil
      rw [← hLI]
      have hil2 : LI.length ≤ 192 := by have := HL2.out; omega
      clear hLI hil
      go_wp2
      go_ret2
      exact ⟨A4, _, c4, LI, 4, rfl, rfl, hil2, ho4.cap.1, ho4.recs, below_go HB3.out hb4⟩
set_option maxHeartbeats 1000000 in
set_option maxRecDepth 100000 in
theorem draw_OfBell {A : Option Addr} {n c : Nat} {w : World} (hS : Src w A n) :
    Calls Tryd.prog 18 #[.slice A n c] w fun e w' => ∃ (A' : Option Addr) (m c' : Nat) (L : List (Int × Int)) (s : Int), e = .returned (.tuple #[.slice A' m c', .int .i64 s]) ∧ L.length = m ∧ m ≤ 192 ∧ Recs strikeE 2 w' A' L ∧ Below w.heap.size w w' := by
  have b0 : Below w.heap.size w (w.alloc (.cells #[.slice A n c, .int .i64 0, .int .u64 0] 53)) := by (repeat' (first | (with_reducible exact Below.refl _ _) | (with_reducible assumption) | (with_reducible refine below_drewN ?_ _) | (with_reducible refine Below.drew ?_) | (with_reducible refine below_alloc ?_ _) | (with_reducible refine Below.alloc ?_ ?_ _) | (with_reducible refine Below.setCell ?_ ?_ _) | (with_reducible refine below_go ?_ (by with_reducible assumption)) | (with_reducible refine below_then (by with_reducible assumption) ?_ ?_) | go_size))
  have c0 := cur_fresh w A n c
  go_in
  go_wp2_with fail
  obtain ⟨w1, hw1⟩ : ∃ u, u = w.alloc (.cells #[.slice A n c, .int .i64 0, .int .u64 0] 53) := ⟨_, rfl⟩
  rw [← hw1] at b0 c0 ⊢
  clear hw1
  refine (cur_anyStruck hS b0 (Nat.le_refl _) c0 (by omega)).mono ?_; rintro e w2 ⟨A2, m2, c2, L2, rfl, hm2, ho2, hc2, hg2⟩
  have hB2 := grown_below b0 (Nat.le_refl _) hg2
  have hlw := c0.lt
  go_wp2_with fail
  refine (cur_pick hS hB2 (Nat.le_refl _) hc2 (by omega) (by decide) (by decide)).mono ?_; rintro e w3 ⟨s, rfl, _, hc3, hg3⟩
  go_wp2
  go_ret2
  exact ⟨A2, m2, c2, L2, s, rfl, ho2.len, hm2, (ho2.past hg3 hlw).recs, grown_below hB2 (Nat.le_refl _) hg3⟩
set_option maxHeartbeats 1000000 in
set_option maxRecDepth 100000 in
theorem draw_BlowAt {A : Option Addr} {n c : Nat} {w : World} (hS : Src w A n) :
    Calls Tryd.prog 20 #[.slice A n c] w fun e w' => ∃ (x y z N r p : Int), e = .returned (.tuple #[.agg #[.int .i64 x, .int .i64 y, .int .i64 z], .int .i64 N, .int .i64 r, .int .i64 p]) ∧ Below w.heap.size w w' := by
  have R0 := Blk.at_ w 25 [.int .i64 0, .int .i64 0, .int .i64 0] (b := w.heap.size) rfl
  have a0 : Below w.heap.size w (w.alloc (.cells #[.int .i64 0, .int .i64 0, .int .i64 0] 25)) := by (repeat' (first | (with_reducible exact Below.refl _ _) | (with_reducible assumption) | (with_reducible refine below_drewN ?_ _) | (with_reducible refine Below.drew ?_) | (with_reducible refine below_alloc ?_ _) | (with_reducible refine Below.alloc ?_ ?_ _) | (with_reducible refine Below.setCell ?_ ?_ _) | (with_reducible refine below_go ?_ (by with_reducible assumption)) | (with_reducible refine below_then (by with_reducible assumption) ?_ ?_) | go_size))
  go_in
  go_upto_region 1 with fail
  obtain ⟨v0, hv0⟩ : ∃ u, u = w.alloc (.cells #[.int .i64 0, .int .i64 0, .int .i64 0] 25) := ⟨_, rfl⟩
  have z0 : w.heap.size < v0.heap.size := by rw [hv0]; simp
  rw [← hv0] at R0 a0 ⊢
  clear hv0
  have hS0 := Lib.hid (hS.over a0)
  have b1 : Below v0.heap.size v0 (v0.alloc (.cells #[.slice A n c, .int .i64 0, .int .u64 0] 53)) := by (repeat' (first | (with_reducible exact Below.refl _ _) | (with_reducible assumption) | (with_reducible refine below_drewN ?_ _) | (with_reducible refine Below.drew ?_) | (with_reducible refine below_alloc ?_ _) | (with_reducible refine Below.alloc ?_ ?_ _) | (with_reducible refine Below.setCell ?_ ?_ _) | (with_reducible refine below_go ?_ (by with_reducible assumption)) | (with_reducible refine below_then (by with_reducible assumption) ?_ ?_) | go_size))
  have c1 := cur_fresh v0 A n c
  have R1 := R0.up b1
  go_upto_region 2 with fail
  obtain ⟨v1, hv1⟩ : ∃ u, u = v0.alloc (.cells #[.slice A n c, .int .i64 0, .int .u64 0] 53) := ⟨_, rfl⟩
  have z1 : v0.heap.size < v1.heap.size := by rw [hv1]; simp
  rw [← hv1] at R1 b1 c1 ⊢
  clear hv1 R0 hS
  go_wp2_with fail
  refine (cur_beat hS0.out b1 (Nat.le_refl _) c1 (by omega)).mono ?_; rintro e w2 ⟨x, y, z, rfl, hx, hy, hz, hc2, hg2⟩
  have R2 := R1.grown hg2 (fun e => by injection e with e; omega)
  have HB2 := Lib.hid (grown_below b1 (Nat.le_refl _) hg2)
  have s2 := hg2.size
  clear hg2 R1 c1 b1
  go_wp2_with fail
  refine (cur_stage hS0.out HB2.out (Nat.le_refl _) hc2 (by omega)).mono ?_; rintro e w3 ⟨N, rfl, hN3, hN8, hc3, hg3⟩
  have R3 := R2.grown hg3 (fun e => by injection e with e; omega)
  have HB3 := Lib.hid (grown_below HB2.out (Nat.le_refl _) hg3)
  have s3 := hg3.size
  clear hg3 R2 HB2 hc2
  go_wp2_with fail
  refine (cur_pick hS0.out HB3.out (Nat.le_refl _) hc3 (by omega) (by decide) (by decide)).mono ?_; rintro e w4 ⟨q, rfl, ⟨q0, q1⟩, hc4, hg4⟩
  have R4 := R3.grown hg4 (fun e => by injection e with e; omega)
  have HB4 := Lib.hid (grown_below HB3.out (Nat.le_refl _) hg4)
  have s4 := hg4.size
  obtain ⟨Q, rfl⟩ := Int.eq_ofNat_of_zero_le q0
  have hQ : Q ≤ 19 := by omega
  clear hg4 R3 HB3 hc3 q0 q1
  have hl := lit_ints w4 3 [0, 1, 2, 3, 10, 800, 801]
  have hlt := hc4.lt
  go_wp2_with fail
  refine (cur_among hS0.out (HB4.out.alloc HB4.out.size _) (Nat.le_refl _) (hc4.up ((Below.refl _ _).alloc (Nat.le_refl _) _)) (by omega) rfl hl (by decide) (by decide) (fun b o e => by injection e with e; injection e with e; omega)).mono ?_; rintro e w5 ⟨r, hr, rfl, hc5, hg5⟩
  have g5 := grownBy_trans (World.grownBy_alloc w4 _ (some v0.heap.size)) hg5
  have R5 := R4.grown g5 (fun e => by injection e with e; omega)
  have HB5 := Lib.hid (grown_below HB4.out (Nat.le_refl _) g5)
  have s5 := g5.size
  clear hg5 g5 R4 HB4 hc4 hl hr
  go_wp2_with fail
  refine (cur_pick hS0.out HB5.out (Nat.le_refl _) hc5 (by omega) (by decide) (by decide)).mono ?_; rintro e w6 ⟨p, rfl, _, hc6, hg6⟩
  have R6 := R5.grown hg6 (fun e => by injection e with e; omega)
  have s6 := hg6.size
  have u0 := R6.cell 0; have u1 := R6.cell 1; have u2 := R6.cell 2; have f0 := R6.frozen 0; have f1 := R6.frozen 1; have f2 := R6.frozen 2
  simp only [List.getElem?_cons_zero, List.getElem?_cons_succ] at u0 u1 u2
  have q1 := sets3_grown w6 w.heap.size (.int .i64 x) (.int .i64 y) (.int .i64 z)
  have R8 := ((R6.set_ 0 (.int .i64 x)).set_ 1 (.int .i64 y)).set_ 2 (.int .i64 z)
  have e0 := R8.cell 0; have e1 := R8.cell 1; have e2 := R8.cell 2
  simp only [List.getElem?_cons_zero, List.getElem?_cons_succ, List.set_cons_zero, List.set_cons_succ] at e0 e1 e2
  have HBF := Lib.hid ((below_go a0 (grown_below HB5.out (Nat.le_refl _) hg6)).grown q1 (by omega) (fun k e => by injection e with e; omega))
  clear R8 q1 R6 R5 HB5 hc5 hg6
  go_wp2_with fail
  refine bodyPost_ret (v := .tuple #[.agg #[.int .i64 x, .int .i64 y, .int .i64 z], .int .i64 ((N : Int) + (Q : Int) / 19 * 6), .int .i64 r, .int .i64 p]) (by simp [results, Tryd.results20, go_sem, e0, e1, e2]) rfl ?_
  exact ⟨x, y, z, _, r, p, rfl, HBF.out⟩
end Go.Proofs.YtpccbmndgdiloaaDoor
/- The walks through the laws' comparisons of lists of strikes, texts and ints, where both are the same list. -/
namespace Go.Proofs.YtpccbmndgdiloaaDoor
set_option linter.unusedVariables false
set_option linter.unusedSimpArgs false
open Go.ChangeShapes Go.WideShapes Go.ChangeAt Go.RowKit Go.Deep
theorem laws_big3 (A B : Option Addr) (n m c d : Nat) (w : World) (hn : n ≤ 9223372036854775807) (hm : m ≤ 9223372036854775807) :
    Calls Tryd.prog 4 #[.slice A n c, .slice B m d] w fun e w' => e = .returned (.bool (!decide (n + m ≤ 1048576))) ∧ w = w' := by
  by_cases h1 : n ≤ 1048576
  · have hI : ¬ (1048576 : Int) < (n : Int) := by omega
    have hW : IntKind.i64.wrap (1048576 - (n : Int)) = 1048576 - (n : Int) := wrap_id (by omega)
    go_in
    go_wp2
    go_ret
    refine ⟨ret_bool ?_, rfl⟩
    by_cases h2 : n + m ≤ 1048576
    · simp [h2]; omega
    · simp [h2]; omega
  · have hI : (1048576 : Int) < (n : Int) := by omega
    go_in
    go_wp2
    go_ret
    refine ⟨ret_bool ?_, rfl⟩
    have h2 : ¬ n + m ≤ 1048576 := by omega
    simp [h2]
set_option maxRecDepth 100000 in
theorem laws_sameIntsB {A B : Option Addr} {n c d : Nat} {l : List Int} {w : World} (hn : l.length = n) (h : Ints w A l) (g : Ints w B l) (hz : n ≤ 16777216) :
    Calls Tryd.prog 22 #[.slice A n c, .slice B n d] w fun e w' => e = .returned (.bool true) ∧ Below w.heap.size w w' := by
  subst hn
  go_in
  go_wp2
  go_loopw [13] (fun i wr => ∃ k : Nat, k ≤ l.length ∧ i = .int .i64 k ∧ Below w.heap.size w wr) (fun i _ => l.length - (intOf i).toNat)
  case atStart => exact ⟨0, Nat.zero_le _, rfl, Below.refl _ _⟩
  case round =>
    obtain ⟨k, hk, rfl, hb⟩ := hrel
    by_cases hlt : k < l.length
    · obtain ⟨b1, o1, x, rfl, _, hx, hcx⟩ := (h.below hb (Nat.le_refl _)).at_int hlt
      obtain ⟨b2, o2, y, rfl, _, hy, hcy⟩ := (g.below hb (Nat.le_refl _)).at_int hlt
      rw [hx] at hy
      injection hy with hy
      subst hy
      clear hx h g
      go_wp2
      go_quiet (fail)
      go_wp2
      go_roundw
      case rel => exact ⟨k + 1, by omega, by go_num, below_drewN hb _⟩
      case measure => simp [intOf]; omega
    · go_wp2
      go_ret
      exact ⟨rfl, hb⟩
set_option maxRecDepth 100000 in
theorem laws_sameTextsB {A B : Option Addr} {n c d : Nat} {l : List ByteArray} {w : World} (hn : l.length = n) (h : Strs w A l) (g : Strs w B l) (hz : n ≤ 16777216) :
    Calls Tryd.prog 13 #[.slice A n c, .slice B n d] w fun e w' => e = .returned (.bool true) ∧ Below w.heap.size w w' := by
  subst hn
  go_in
  go_wp2
  go_loopw [13] (fun i wr => ∃ k : Nat, k ≤ l.length ∧ i = .int .i64 k ∧ Below w.heap.size w wr) (fun i _ => l.length - (intOf i).toNat)
  case atStart => exact ⟨0, Nat.zero_le _, rfl, Below.refl _ _⟩
  case round =>
    obtain ⟨k, hk, rfl, hb⟩ := hrel
    by_cases hlt : k < l.length
    · obtain ⟨b1, o1, x, rfl, _, hx, hcx⟩ := (h.below hb (Nat.le_refl _)).at_str hlt
      obtain ⟨b2, o2, y, rfl, _, hy, hcy⟩ := (g.below hb (Nat.le_refl _)).at_str hlt
      rw [hx] at hy
      injection hy with hy
      subst hy
      clear hx h g
      go_wp2
      go_quiet (fail)
      go_wp2
      go_roundw
      case rel => exact ⟨k + 1, by omega, by go_num, below_drewN hb _⟩
      case measure => simp [intOf]; omega
    · go_wp2
      go_ret
      exact ⟨rfl, hb⟩
set_option maxRecDepth 100000 in
theorem laws_sameStrikesB {A B : Option Addr} {n c d : Nat} {l : List (Int × Int)} {w : World} (hn : l.length = n) (h : Recs strikeE 2 w A l) (g : Recs strikeE 2 w B l) (hz : n ≤ 16777216) :
    Calls Tryd.prog 8 #[.slice A n c, .slice B n d] w fun e w' => e = .returned (.bool true) ∧ Below w.heap.size w w' := by
  subst hn
  go_in
  go_wp2
  go_loopw [13] (fun i wr => ∃ k : Nat, k ≤ l.length ∧ i = .int .i64 k ∧ Below w.heap.size w wr) (fun i _ => l.length - (intOf i).toNat)
  case atStart => exact ⟨0, Nat.zero_le _, rfl, Below.refl _ _⟩
  case round =>
    obtain ⟨k, hk, rfl, hb⟩ := hrel
    by_cases hlt : k < l.length
    · obtain ⟨⟨x1, x2⟩, hx⟩ := some_of_lt hlt
      obtain ⟨b1, o1, rfl, _, hc1, hc2⟩ := Recs.at_2 (f := fun s : Int × Int => Value.int .i64 s.1) (g := fun s : Int × Int => Value.int .i64 s.2) (h.below hb (Nat.le_refl _)) hx
      obtain ⟨b2, o2, rfl, _, hd1, hd2⟩ := Recs.at_2 (f := fun s : Int × Int => Value.int .i64 s.1) (g := fun s : Int × Int => Value.int .i64 s.2) (g.below hb (Nat.le_refl _)) hx
      dsimp only at hc1 hc2 hd1 hd2
      clear hx h g
      go_wp2
      go_quiet (fail)
      go_wp2
      go_roundw
      case rel => exact ⟨k + 1, by omega, by go_num, below_drewN hb _⟩
      case measure => simp [intOf]; omega
    · go_wp2
      go_ret
      exact ⟨rfl, hb⟩
end Go.Proofs.YtpccbmndgdiloaaDoor
/-
  DERIVED: THE SHELF's CONTRACTS AT THIS DUMP, IN PLAIN WORDS (tools/lay-plain.mjs out of 'YtpccbmndgdiloaaDoorShelf.lean', which tools/lay-shelf.mjs wrote): THE SAME DECLARATIONS UNDER THE SAME NAMES: 'import', 'namespace', 'open', 'def', 'theorem' AND NOTHING ELSE: no command of the shelf's: FOR A HAND-IN. Each laying: the table of numbers ('.._ren') and one theorem, a field a fact of the dump's own or the kernel's comparison; each contract: ONE APPLICATION.
-/
namespace Go.Proofs
open Go.Shelf
def Tryd.laysM171_ren : Go.Shelf.Ren := ⟨fun | 171 => 50 | 243 => 57 | 246 => 68 | 283 => 74 | 284 => 75 | 285 => 76 | 286 => 77 | 129 => 83 | 317 => 82 | 318 => 84 | 319 => 85 | 320 => 86 | 337 => 88 | 338 => 89 | n => n, fun | 3 => 3 | 9 => 9 | 2 => 2 | 4 => 4 | 171 => 91 | 0 => 0 | 53 => 51 | 37 => 22 | 5 => 5 | 173 => 94 | 212 => 101 | 51 => 102 | 20 => 20 | 213 => 103 | 46 => 79 | 232 => 107 | 233 => 108 | n => n, fun | 17 => 0 | 18 => 1 | 19 => 2 | n => n⟩
theorem Tryd.laysM171 : Go.Proofs.LaysM.n171 Tryd.prog Tryd.laysM171_ren := {
  mixed := by kernel_rfl
  f129 := Tryd.func83.trans (congrArg some (by kernel_rfl))
  f171 := Tryd.func50.trans (congrArg some (by kernel_rfl))
  f243 := Tryd.func57.trans (congrArg some (by kernel_rfl))
  f246 := Tryd.func68.trans (congrArg some (by kernel_rfl))
  f283 := Tryd.func74.trans (congrArg some (by kernel_rfl))
  f284 := Tryd.func75.trans (congrArg some (by kernel_rfl))
  f285 := Tryd.func76.trans (congrArg some (by kernel_rfl))
  f286 := Tryd.func77.trans (congrArg some (by kernel_rfl))
  f317 := Tryd.func82.trans (congrArg some (by kernel_rfl))
  f318 := Tryd.func84.trans (congrArg some (by kernel_rfl))
  f319 := Tryd.func85.trans (congrArg some (by kernel_rfl))
  f320 := Tryd.func86.trans (congrArg some (by kernel_rfl))
  f337 := Tryd.func88.trans (congrArg some (by kernel_rfl))
  f338 := Tryd.func89.trans (congrArg some (by kernel_rfl))
  t0 := Tryd.underlying0
  a0 := Tryd.isAgg0
  z0 := Tryd.sizeOf0
  v0 := Tryd.zeroValue0
  t2 := Tryd.underlying2
  a2 := Tryd.isAgg2
  z2 := Tryd.sizeOf2
  v2 := Tryd.zeroValue2
  t3 := Tryd.underlying3
  a3 := Tryd.isAgg3
  z3 := Tryd.sizeOf3
  v3 := Tryd.zeroValue3
  t4 := Tryd.underlying4
  a4 := Tryd.isAgg4
  z4 := Tryd.sizeOf4
  v4 := Tryd.zeroValue4
  t5 := Tryd.underlying5
  a5 := Tryd.isAgg5
  z5 := Tryd.sizeOf5
  v5 := Tryd.zeroValue5
  t9 := Tryd.underlying9
  a9 := Tryd.isAgg9
  z9 := Tryd.sizeOf9
  v9 := Tryd.zeroValue9
  t20 := Tryd.underlying20
  a20 := Tryd.isAgg20
  z20 := Tryd.sizeOf20
  v20 := Tryd.zeroValue20
  t37 := Tryd.underlying22
  a37 := Tryd.isAgg22
  z37 := Tryd.sizeOf22
  v37 := Tryd.zeroValue22
  t46 := Tryd.underlying79
  a46 := Tryd.isAgg79
  z46 := Tryd.sizeOf79
  v46 := Tryd.zeroValue79
  t51 := Tryd.underlying102
  a51 := Tryd.isAgg102
  z51 := Tryd.sizeOf102
  v51 := Tryd.zeroValue102
  t53 := Tryd.underlying51
  a53 := Tryd.isAgg51
  z53 := Tryd.sizeOf51
  v53 := Tryd.zeroValue51
  t171 := Tryd.underlying91
  a171 := Tryd.isAgg91
  z171 := Tryd.sizeOf91
  v171 := Tryd.zeroValue91
  t173 := Tryd.underlying94
  a173 := Tryd.isAgg94
  z173 := Tryd.sizeOf94
  v173 := Tryd.zeroValue94
  t212 := Tryd.underlying101
  a212 := Tryd.isAgg101
  z212 := Tryd.sizeOf101
  v212 := Tryd.zeroValue101
  t213 := Tryd.underlying103
  a213 := Tryd.isAgg103
  z213 := Tryd.sizeOf103
  t232 := Tryd.underlying107
  a232 := Tryd.isAgg107
  z232 := Tryd.sizeOf107
  v232 := Tryd.zeroValue107
  t233 := Tryd.underlying108
  a233 := Tryd.isAgg108
  z233 := Tryd.sizeOf108
  v233 := Tryd.zeroValue108
  g17 := by kernel_rfl
  g18 := by kernel_rfl
  g19 := by kernel_rfl
  i0 := by kernel_rfl
  i2 := by kernel_rfl
  i3 := by kernel_rfl
  i4 := by kernel_rfl
  i5 := by kernel_rfl
  i9 := by kernel_rfl
  i20 := by kernel_rfl
  i37 := by kernel_rfl
  i46 := by kernel_rfl
  i51 := by kernel_rfl
  i53 := by kernel_rfl
  i171 := by kernel_rfl
  i173 := by kernel_rfl
  i212 := by kernel_rfl
  i232 := by kernel_rfl
  i233 := by kernel_rfl
  m17 := by kernel_rfl
  m18 := by kernel_rfl
  m19 := by kernel_rfl }
open Go.RowKit Go.Sort Go.Lib in
/-- strconv.Itoa: "Itoa is equivalent to FormatInt(int64(i), 10).": i's DECIMAL NUMERAL ('Lib.itoa': a '-' where i is negative, then the digits), FOR EVERY int. The world behind the call: the world before it, new blocks behind the heap (the library's 'var a [24]byte'), draws. (LAID: no walk: one application.) -/
theorem Tryd.strconv_Itoa (n : Int) (h0 : -9223372036854775808 ≤ n) (h1 : n ≤ 9223372036854775807) (w : World) (htab : Lib.TabIs Tryd.prog w "internal/strconv.uint64pow10" .u64 Lib.pow10Tab) :
    Calls Tryd.prog 50 #[.int .i64 n] w fun e w' => e = .returned (.string ⟨(Lib.itoa n).toArray⟩) ∧ ∃ k os, w' = grow (w.drewN k) os := Any.strconv_Itoa Tryd.laysM171 n h0 h1 w htab
def Tryd.lays171_ren : Go.Shelf.Ren := ⟨fun | 171 => 50 | 243 => 57 | 246 => 68 | 283 => 74 | 284 => 75 | 285 => 76 | 286 => 77 | 129 => 83 | 317 => 82 | 318 => 84 | 319 => 85 | 320 => 86 | 337 => 88 | 338 => 89 | n => n, fun | 3 => 3 | 9 => 9 | 2 => 2 | 4 => 4 | 171 => 91 | 0 => 0 | 53 => 51 | 37 => 22 | 5 => 5 | 173 => 94 | 212 => 101 | 51 => 102 | 20 => 20 | 213 => 103 | 46 => 79 | 232 => 107 | 233 => 108 | n => n, fun | 17 => 0 | 18 => 1 | 19 => 2 | n => n⟩
theorem Tryd.lays171 : Go.Proofs.Lays.n171 Tryd.prog Tryd.lays171_ren := {
  mixed := by kernel_rfl
  f129 := Tryd.func83.trans (congrArg some (by kernel_rfl))
  f171 := Tryd.func50.trans (congrArg some (by kernel_rfl))
  f243 := Tryd.func57.trans (congrArg some (by kernel_rfl))
  f246 := Tryd.func68.trans (congrArg some (by kernel_rfl))
  f283 := Tryd.func74.trans (congrArg some (by kernel_rfl))
  f284 := Tryd.func75.trans (congrArg some (by kernel_rfl))
  f285 := Tryd.func76.trans (congrArg some (by kernel_rfl))
  f286 := Tryd.func77.trans (congrArg some (by kernel_rfl))
  f317 := Tryd.func82.trans (congrArg some (by kernel_rfl))
  f318 := Tryd.func84.trans (congrArg some (by kernel_rfl))
  f319 := Tryd.func85.trans (congrArg some (by kernel_rfl))
  f320 := Tryd.func86.trans (congrArg some (by kernel_rfl))
  f337 := Tryd.func88.trans (congrArg some (by kernel_rfl))
  f338 := Tryd.func89.trans (congrArg some (by kernel_rfl))
  t0 := Tryd.underlying0
  a0 := Tryd.isAgg0
  z0 := Tryd.sizeOf0
  v0 := Tryd.zeroValue0
  t2 := Tryd.underlying2
  a2 := Tryd.isAgg2
  z2 := Tryd.sizeOf2
  v2 := Tryd.zeroValue2
  t3 := Tryd.underlying3
  a3 := Tryd.isAgg3
  z3 := Tryd.sizeOf3
  v3 := Tryd.zeroValue3
  t4 := Tryd.underlying4
  a4 := Tryd.isAgg4
  z4 := Tryd.sizeOf4
  v4 := Tryd.zeroValue4
  t5 := Tryd.underlying5
  a5 := Tryd.isAgg5
  z5 := Tryd.sizeOf5
  v5 := Tryd.zeroValue5
  t9 := Tryd.underlying9
  a9 := Tryd.isAgg9
  z9 := Tryd.sizeOf9
  v9 := Tryd.zeroValue9
  t20 := Tryd.underlying20
  a20 := Tryd.isAgg20
  z20 := Tryd.sizeOf20
  v20 := Tryd.zeroValue20
  t37 := Tryd.underlying22
  a37 := Tryd.isAgg22
  z37 := Tryd.sizeOf22
  v37 := Tryd.zeroValue22
  t46 := Tryd.underlying79
  a46 := Tryd.isAgg79
  z46 := Tryd.sizeOf79
  v46 := Tryd.zeroValue79
  t51 := Tryd.underlying102
  a51 := Tryd.isAgg102
  z51 := Tryd.sizeOf102
  v51 := Tryd.zeroValue102
  t53 := Tryd.underlying51
  a53 := Tryd.isAgg51
  z53 := Tryd.sizeOf51
  v53 := Tryd.zeroValue51
  t171 := Tryd.underlying91
  a171 := Tryd.isAgg91
  z171 := Tryd.sizeOf91
  v171 := Tryd.zeroValue91
  t173 := Tryd.underlying94
  a173 := Tryd.isAgg94
  z173 := Tryd.sizeOf94
  v173 := Tryd.zeroValue94
  t212 := Tryd.underlying101
  a212 := Tryd.isAgg101
  z212 := Tryd.sizeOf101
  v212 := Tryd.zeroValue101
  t213 := Tryd.underlying103
  a213 := Tryd.isAgg103
  z213 := Tryd.sizeOf103
  t232 := Tryd.underlying107
  a232 := Tryd.isAgg107
  z232 := Tryd.sizeOf107
  v232 := Tryd.zeroValue107
  t233 := Tryd.underlying108
  a233 := Tryd.isAgg108
  z233 := Tryd.sizeOf108
  v233 := Tryd.zeroValue108
  g17 := by kernel_rfl
  g18 := by kernel_rfl
  g19 := by kernel_rfl }
open Go.RowKit Go.Sort Go.Lib in
/-- THE ROAD WITHOUT THE TABLE: 0 <= i < 100: NO PREMISE ON THE WORLD, AND THE WORLD IS AS IT WAS: a row that keeps its argument in that range need list no table ('laid = []'). (LAID: no walk: one application.) -/
theorem Tryd.strconv_Itoa_small (i : Nat) (hi : i < 100) (w : World) :
    Calls Tryd.prog 50 #[.int .i64 i] w fun e w' => e = .returned (.string ⟨(Lib.decDigits i).toArray⟩) ∧ w' = w := Any.strconv_Itoa_small Tryd.lays171 i hi w
end Go.Proofs
/- The decimal text of a number: plain, and the reference's walk. -/
namespace Go.Proofs.YtpccbmndgdiloaaDoor
set_option linter.unusedVariables false
set_option linter.unusedSimpArgs false
open Go.ChangeShapes Go.WideShapes Go.ChangeAt Go.RowKit Go.Deep
def decS (n : Nat) : ByteArray := ⟨(Lib.decDigits n).toArray⟩
theorem decS_small {n : Nat} (h : n < 10) : decS n = dig1 n := by
  rw [decS, Lib.decDigits, dif_pos h]
  have : ∀ n, n < 10 → (⟨([UInt8.ofNat (48 + n)] : List UInt8).toArray⟩ : ByteArray) = dig1 (n : Int) := of_decide_eq_true (by kernel_rfl)
  exact this n h
theorem decS_big {n : Nat} (h : ¬ n < 10) : decS n = decS (n / 10) ++ dig1 ((n % 10 : Nat) : Int) := by
  have hs := decS_small (n := n % 10) (by omega)
  rw [← hs, decS, Lib.decDigits, dif_neg h, decS, decS, Lib.decDigits.eq_1 (n % 10), dif_pos (by omega)]
  apply ByteArray.ext
  simp
theorem decS_size : ∀ (k n : Nat), n < 10 ^ (k + 1) → (decS n).size ≤ k + 1
  | 0, n, h => by rw [decS_small (by simpa using h)]; exact Nat.le_refl _
  | k + 1, n, h => by
    by_cases h1 : n < 10
    · rw [decS_small h1]; show 1 ≤ k + 1 + 1; omega
    · rw [decS_big h1, ByteArray.size_append]
      have := decS_size k (n / 10) (by rw [Nat.pow_succ] at h; omega)
      have h2 : (dig1 ((n % 10 : Nat) : Int)).size = 1 := rfl
      omega
theorem dec_small {n : Nat} (h : n ≤ 1000000000000) : (decS n).size ≤ 13 := decS_size 12 n (by omega)
theorem dig_conv (P : Program) (u : World) {g : Nat} {x : Int} {tb t8 ts : TypeId} (hb : P.underlying tb = some (.slice t8)) (h8 : P.underlying t8 = some (.int .u8)) (hs : P.underlying ts = some .string) (h : u.cell? ⟨g, 0, none⟩ = some (.int .u8 (48 + x))) :
    (convert tb ts (.slice (some ⟨g, 0, none⟩) 1 1)).run P u = .ok (.string (dig1 x)) u := by
  have := run_convert_bytes_arg (P := P) u tb t8 hb h8 g 0 1 1 [48 + x] rfl (fun i hi => by
    obtain rfl : i = 0 := by omega
    exact h) ts hs
  exact this
set_option maxHeartbeats 2000000 in
set_option maxRecDepth 100000 in
theorem spec_l1Num : ∀ (k n : Nat) (w : World), n ≤ k → n ≤ 1000000000000 →
    Calls Tryd.prog 40 #[.int .i64 (n : Int)] w fun e w' => e = .returned (.string (decS n)) ∧ Below w.heap.size w w' := by
  intro k
  induction k with
  | zero =>
    intro n w hn _
    obtain rfl : n = 0 := by omega
    rw [decS_small (by decide)]
    exact spec_l1Num_1 (by decide) (by decide)
  | succ k ih =>
    intro n w hn hz
    by_cases h10 : n < 10
    · rw [decS_small h10]
      exact spec_l1Num_1 (by omega) (by omega)
    · have hI : ¬ (n : Int) < 10 := by omega
      obtain ⟨d, hd⟩ : ∃ d : Nat, d = n % 10 := ⟨_, rfl⟩
      obtain ⟨q, hq⟩ : ∃ q : Nat, q = n / 10 := ⟨_, rfl⟩
      have HE := Lib.hid (show decS n = decS q ++ dig1 (d : Int) by rw [decS_big h10, hd, hq])
      have hd9 : d ≤ 9 := by omega
      have hq1 : IntKind.i64.wrap (Int.tdiv (n : Int) 10) = (q : Int) := by rw [Int.tdiv_eq_ediv_of_nonneg (by omega), wrap_id (by omega)]; omega
      have hq2 : IntKind.i64.wrap ((n : Int) / 10) = (q : Int) := by rw [wrap_id (by omega)]; omega
      have hm1 : (n : Int).tmod 10 = (d : Int) := by rw [Int.tmod_eq_emod_of_nonneg (by omega)]; omega
      have hm2 : (n : Int) % 10 = (d : Int) := by omega
      have hw1 : IntKind.i64.wrap (48 + (d : Int)) = 48 + (d : Int) := wrap_id (by omega)
      have hw2 : IntKind.u8.wrap (48 + (d : Int)) = 48 + (d : Int) := by rw [IntKind.wrap_u8]; omega
      have IH := Lib.hid (fun (u : World) => ih q u (by omega) (by omega))
      have hz1 : (decS q).size ≤ 13 := dec_small (by omega)
      have hz2 : (dig1 (d : Int)).size = 1 := rfl
      have hzc : ¬ 9223372036854775807 < (decS q).size + 1 := by omega
      clear hd hq ih
      go_in
      go_wp2
      -- region
      have CD : Below w.heap.size w w.drew := (Below.refl _ _).drew
      refine wp_region_held_drew (S := fun _ => True) (by kernel_rfl) trivial (fun hHeld => ?_)
      refine wpAnyH_take (i := 0) (oi := { dst := some 10, op := _, type := _, pos := _, after := _, guard := _ }) (v := ?_) rfl (by kernel_rfl) (by kernel_rfl) (by kernel_rfl) (fun _ _ _ h => h) (Or.inl ⟨by rfl, ?_⟩) (by assumption) ?_
      rotate_left
      · (intro w hSw; (try dsimp only at hSw); go_simp) <;> with_reducible rfl
      try simp only [Act.put, List.setIfInBounds_toArray, List.set_cons_zero, List.set_cons_succ]
      refine wpAnyH_take (i := 1) (oi := { dst := some 11, op := _, type := _, pos := _, after := _, guard := _ }) (v := ?_) rfl (by kernel_rfl) (by kernel_rfl) (by kernel_rfl) (fun _ _ _ h => h) (Or.inl ⟨by rfl, ?_⟩) (by assumption) ?_
      rotate_left
      · (intro w hSw; (try dsimp only at hSw); go_simp) <;> with_reducible rfl
      try simp only [Act.put, List.setIfInBounds_toArray, List.set_cons_zero, List.set_cons_succ]
      refine wpAnyH_take (i := 3) (oi := { dst := some 13, op := _, type := _, pos := _, after := _, guard := _ }) (v := ?_) rfl (by kernel_rfl) (by kernel_rfl) (by kernel_rfl) (fun _ _ _ h => h) (Or.inl ⟨by rfl, ?_⟩) (by assumption) ?_
      rotate_left
      · (intro w hSw; (try dsimp only at hSw); go_simp) <;> with_reducible rfl
      try simp only [Act.put, List.setIfInBounds_toArray, List.set_cons_zero, List.set_cons_succ]
      refine wpAnyH_take (i := 4) (oi := { dst := some 14, op := _, type := _, pos := _, after := _, guard := _ }) (v := ?_) rfl (by kernel_rfl) (by kernel_rfl) (by kernel_rfl) (fun _ _ _ h => h) (Or.inl ⟨by rfl, ?_⟩) (by assumption) ?_
      rotate_left
      · (intro w hSw; (try dsimp only at hSw); go_simp) <;> with_reducible rfl
      try simp only [Act.put, List.setIfInBounds_toArray, List.set_cons_zero, List.set_cons_succ]
      refine wpAnyH_take (i := 5) (oi := { dst := some 15, op := _, type := _, pos := _, after := _, guard := _ }) (v := ?_) rfl (by kernel_rfl) (by kernel_rfl) (by kernel_rfl) (fun _ _ _ h => h) (Or.inl ⟨by rfl, ?_⟩) (by assumption) ?_
      rotate_left
      · (intro w hSw; (try dsimp only at hSw); go_simp) <;> with_reducible rfl
      try simp only [Act.put, List.setIfInBounds_toArray, List.set_cons_zero, List.set_cons_succ]
      refine wpAnyH_take (i := 6) (oi := { dst := some 16, op := _, type := _, pos := _, after := _, guard := _ }) (v := ?_) rfl (by kernel_rfl) (by kernel_rfl) (by kernel_rfl) (fun _ _ _ h => h) (Or.inl ⟨by rfl, ?_⟩) (by assumption) ?_
      rotate_left
      · (intro w hSw; (try dsimp only at hSw); go_simp) <;> with_reducible rfl
      try simp only [Act.put, List.setIfInBounds_toArray, List.set_cons_zero, List.set_cons_succ]
      generalize w.drew = wd at CD hHeld ⊢
      refine wpAnyH_ready (rs := [2, 7]) (by kernel_rfl) (by simp) ?_
      refine AllReadyH.cons (o := _) rfl (fun K hK => ?_) (AllReadyH.cons (o := _) rfl (fun K hK => ?_) AllReadyH.nil)
      · go_simp
        refine (IH.out _).mono ?_; rintro e w1 ⟨rfl, hbw1⟩
        have Cw1 := (CD).trans (hbw1.mono (CD).size)
        try go_wp2_with fail
        refine hK.out _ _ trivial (fun hHeld => ?_)
        clear hK K
        try simp only [Act.put, List.setIfInBounds_toArray, List.set_cons_zero, List.set_cons_succ]
        refine wpAnyH_ready (rs := [7]) (by kernel_rfl) (by simp) ?_
        refine AllReadyH.cons (o := _) rfl (fun K hK => ?_) AllReadyH.nil
        go_simp
        refine hK.out _ _ trivial (fun hHeld => ?_)
        clear hK K
        try simp only [Act.put, List.setIfInBounds_toArray, List.set_cons_zero, List.set_cons_succ]
        have cv := dig_conv Tryd.prog (w1.alloc (.cells #[.int .u8 (48 + (d : Int))] 5)) (g := w1.heap.size) (x := (d : Int)) Tryd.underlying22 Tryd.underlying5 Tryd.underlying9 (Box.new w1 [.int .u8 (48 + (d : Int))] 5 0 _ rfl)
        refine wpAnyH_ready (rs := [8]) (by kernel_rfl) (by simp) ?_
        refine AllReadyH.cons (o := _) rfl (fun K hK => ?_) AllReadyH.nil
        go_simp
        refine hK.out _ _ trivial (fun hHeld => ?_)
        clear hK K
        try simp only [Act.put, List.setIfInBounds_toArray, List.set_cons_zero, List.set_cons_succ]
        refine wpAnyH_take (i := 9) (oi := { dst := some 19, op := _, type := _, pos := _, after := _, guard := _ }) (v := ?_) rfl (by kernel_rfl) (by kernel_rfl) (by kernel_rfl) (fun _ _ _ h => h) (Or.inl ⟨by rfl, ?_⟩) (by assumption) ?_
        rotate_left
        · (intro w hSw; (try dsimp only at hSw); go_simp) <;> with_reducible rfl
        try simp only [Act.put, List.setIfInBounds_toArray, List.set_cons_zero, List.set_cons_succ]
        refine wpAnyH_take (i := 10) (oi := { dst := some 2, op := _, type := _, pos := _, after := _, guard := _ }) (v := ?_) rfl (by kernel_rfl) (by kernel_rfl) (by kernel_rfl) (fun _ _ _ h => h) (Or.inl ⟨by rfl, ?_⟩) (by assumption) ?_
        rotate_left
        · (intro w hSw; (try dsimp only at hSw); go_simp) <;> with_reducible rfl
        try simp only [Act.put, List.setIfInBounds_toArray, List.set_cons_zero, List.set_cons_succ]
        refine wpAnyH_done (by kernel_rfl) ?_ _
        try simp only [Act.put, List.setIfInBounds_toArray, List.set_cons_zero, List.set_cons_succ]
        go_wp2
        go_ret
        rw [HE.out]
        exact ⟨rfl, Cw1.alloc Cw1.size _⟩
      · have CB := CD.alloc CD.size (.cells #[.int .u8 (48 + (d : Int))] 5)
        have cx : ∀ u : World, Below (wd.alloc (.cells #[.int .u8 (48 + (d : Int))] 5)).heap.size (wd.alloc (.cells #[.int .u8 (48 + (d : Int))] 5)) u → (convert 22 9 (.slice (some ⟨wd.heap.size, 0, none⟩) 1 1)).run Tryd.prog u = .ok (.string (dig1 (d : Int))) u := fun u hu => dig_conv Tryd.prog u (g := wd.heap.size) (x := (d : Int)) Tryd.underlying22 Tryd.underlying5 Tryd.underlying9 ((hu.cell (p := ⟨wd.heap.size, 0, none⟩) (by simp)).trans (Box.new wd [.int .u8 (48 + (d : Int))] 5 0 _ rfl))
        have CX := Lib.hid cx
        clear cx
        go_simp
        refine hK.out _ _ trivial (fun hHeld => ?_)
        clear hK K
        try simp only [Act.put, List.setIfInBounds_toArray, List.set_cons_zero, List.set_cons_succ]
        refine wpAnyH_ready (rs := [2, 8]) (by kernel_rfl) (by simp) ?_
        refine AllReadyH.cons (o := _) rfl (fun K hK => ?_) (AllReadyH.cons (o := _) rfl (fun K hK => ?_) AllReadyH.nil)
        · go_simp
          refine (IH.out _).mono ?_; rintro e w1 ⟨rfl, hbw1⟩
          have Cw1 := (CB).trans (hbw1.mono (CB).size)
          try go_wp2_with fail
          refine hK.out _ _ trivial (fun hHeld => ?_)
          clear hK K
          try simp only [Act.put, List.setIfInBounds_toArray, List.set_cons_zero, List.set_cons_succ]
          have cv := CX.out _ hbw1
          refine wpAnyH_ready (rs := [8]) (by kernel_rfl) (by simp) ?_
          refine AllReadyH.cons (o := _) rfl (fun K hK => ?_) AllReadyH.nil
          go_simp
          refine hK.out _ _ trivial (fun hHeld => ?_)
          clear hK K
          try simp only [Act.put, List.setIfInBounds_toArray, List.set_cons_zero, List.set_cons_succ]
          refine wpAnyH_take (i := 9) (oi := { dst := some 19, op := _, type := _, pos := _, after := _, guard := _ }) (v := ?_) rfl (by kernel_rfl) (by kernel_rfl) (by kernel_rfl) (fun _ _ _ h => h) (Or.inl ⟨by rfl, ?_⟩) (by assumption) ?_
          rotate_left
          · (intro w hSw; (try dsimp only at hSw); go_simp) <;> with_reducible rfl
          try simp only [Act.put, List.setIfInBounds_toArray, List.set_cons_zero, List.set_cons_succ]
          refine wpAnyH_take (i := 10) (oi := { dst := some 2, op := _, type := _, pos := _, after := _, guard := _ }) (v := ?_) rfl (by kernel_rfl) (by kernel_rfl) (by kernel_rfl) (fun _ _ _ h => h) (Or.inl ⟨by rfl, ?_⟩) (by assumption) ?_
          rotate_left
          · (intro w hSw; (try dsimp only at hSw); go_simp) <;> with_reducible rfl
          try simp only [Act.put, List.setIfInBounds_toArray, List.set_cons_zero, List.set_cons_succ]
          refine wpAnyH_done (by kernel_rfl) ?_ _
          try simp only [Act.put, List.setIfInBounds_toArray, List.set_cons_zero, List.set_cons_succ]
          go_wp2
          go_ret
          rw [HE.out]
          exact ⟨rfl, Cw1⟩
        · have cv := CX.out _ (Below.refl _ _)
          go_simp
          refine hK.out _ _ trivial (fun hHeld => ?_)
          clear hK K
          try simp only [Act.put, List.setIfInBounds_toArray, List.set_cons_zero, List.set_cons_succ]
          clear cv
          refine wpAnyH_ready (rs := [2]) (by kernel_rfl) (by simp) ?_
          refine AllReadyH.cons (o := _) rfl (fun K hK => ?_) AllReadyH.nil
          go_simp
          refine (IH.out _).mono ?_; rintro e w1 ⟨rfl, hbw1⟩
          have Cw1 := (CB).trans (hbw1.mono (CB).size)
          try go_wp2_with fail
          refine hK.out _ _ trivial (fun hHeld => ?_)
          clear hK K
          try simp only [Act.put, List.setIfInBounds_toArray, List.set_cons_zero, List.set_cons_succ]
          refine wpAnyH_take (i := 9) (oi := { dst := some 19, op := _, type := _, pos := _, after := _, guard := _ }) (v := ?_) rfl (by kernel_rfl) (by kernel_rfl) (by kernel_rfl) (fun _ _ _ h => h) (Or.inl ⟨by rfl, ?_⟩) (by assumption) ?_
          rotate_left
          · (intro w hSw; (try dsimp only at hSw); go_simp) <;> with_reducible rfl
          try simp only [Act.put, List.setIfInBounds_toArray, List.set_cons_zero, List.set_cons_succ]
          refine wpAnyH_take (i := 10) (oi := { dst := some 2, op := _, type := _, pos := _, after := _, guard := _ }) (v := ?_) rfl (by kernel_rfl) (by kernel_rfl) (by kernel_rfl) (fun _ _ _ h => h) (Or.inl ⟨by rfl, ?_⟩) (by assumption) ?_
          rotate_left
          · (intro w hSw; (try dsimp only at hSw); go_simp) <;> with_reducible rfl
          try simp only [Act.put, List.setIfInBounds_toArray, List.set_cons_zero, List.set_cons_succ]
          refine wpAnyH_done (by kernel_rfl) ?_ _
          try simp only [Act.put, List.setIfInBounds_toArray, List.set_cons_zero, List.set_cons_succ]
          go_wp2
          go_ret
          rw [HE.out]
          exact ⟨rfl, Cw1⟩
end Go.Proofs.YtpccbmndgdiloaaDoor
/- The program's decimal text of a number. -/
namespace Go.Proofs.YtpccbmndgdiloaaDoor
set_option linter.unusedVariables false
set_option linter.unusedSimpArgs false
open Go.ChangeShapes Go.WideShapes Go.ChangeAt Go.RowKit Go.Deep
theorem impl_decimal_s {i : Nat} {w : World} (hi : i < 100) :
    Calls Tryd.prog 33 #[.int .i64 (i : Int)] w fun e w' => e = .returned (.string (decS i)) ∧ w = w' := by
  go_in
  go_wp2_with (first | (go_at_call 50; refine (Tryd.strconv_Itoa_small i hi _).mono ?_; rintro e w' ⟨rfl, rfl⟩))
  go_ret
  exact ⟨rfl, rfl⟩
theorem impl_decimal_1 {x : Int} {w : World} (h0 : 0 ≤ x) (h9 : x ≤ 9) :
    Calls Tryd.prog 33 #[.int .i64 x] w fun e w' => e = .returned (.string (dig1 x)) ∧ Below w.heap.size w w' := by
  obtain ⟨i, rfl⟩ := Int.eq_ofNat_of_zero_le h0
  refine (impl_decimal_s (i := i) (by omega)).mono ?_
  rintro e w' ⟨rfl, rfl⟩
  exact ⟨by rw [decS_small (by omega)], Below.refl _ _⟩
theorem impl_decimal {n : Nat} {w : World} (hn : n ≤ 1000000000000) (htab : Lib.TabIs Tryd.prog w "internal/strconv.uint64pow10" .u64 Lib.pow10Tab) :
    Calls Tryd.prog 33 #[.int .i64 (n : Int)] w fun e w' => e = .returned (.string (decS n)) ∧ Below w.heap.size w w' := by
  have he : (⟨(Lib.itoa (n : Int)).toArray⟩ : ByteArray) = decS n := by rw [Lib.itoa, if_neg (by omega)]; rfl
  go_in
  go_wp2_with (first | (go_at_call 50; refine (Tryd.strconv_Itoa (n : Int) (by omega) (by omega) _ htab).mono ?_; rw [he]; rintro e w' ⟨rfl, k, os, rfl⟩))
  go_ret
  exact ⟨rfl, Lib.below_grow _ _ (Nat.le_refl _) k os⟩
end Go.Proofs.YtpccbmndgdiloaaDoor
/- The walks through CutRows, both sides. -/
namespace Go.Proofs.YtpccbmndgdiloaaDoor
set_option linter.unusedVariables false
set_option linter.unusedSimpArgs false
open Go.ChangeShapes Go.WideShapes Go.ChangeAt Go.RowKit Go.Deep
set_option maxHeartbeats 2000000 in
set_option maxRecDepth 100000 in
theorem impl_CutRows {A : Option Addr} {n c : Nat} {l : List (Int × Int)} {N : Int} {w : World} (hn : l.length = n) (h : Recs strikeE 2 w A l) (hz : n ≤ 16777216) (hcap : n ≤ c) :
    Calls Tryd.prog 11 #[.slice A n c, .int .i64 N] w fun e w' => ∃ A' c', e = .returned (.tuple #[.slice A' (cutL l N).length c', .bool (cutOk l N)]) ∧ Owned strE 1 9 w' w.heap.size A' (cutL l N).length c' (cutL l N) ∧ (cutL l N).length ≤ 16777216 ∧ Below w.heap.size w w' := by
  subst hn
  have HQ : Hid (cutOk l N = ((goodStrikes l && inB N 3 8) && cutAll l N.toNat)) := Lib.hid rfl
  rcases h1 : goodStrikes l
  · have e2 := Lib.hid (show cutOk l N = false by rw [HQ.out, h1]; rfl)
    have e1 := Lib.hid (cutL_f e2.out)
    go_in
    go_wp2_with (first | (go_at_call 12; refine (impl_GoodStrikes rfl h hz).mono ?_; rw [h1]; rintro e w1 ⟨rfl, hb1⟩))
    go_ret2
    rw [e1.out, e2.out]
    exact ⟨none, 0, rfl, Owned.nil strE_len _ _ _, by decide, hb1⟩
  rcases h2 : inB N 3 8
  · have e2 := Lib.hid (show cutOk l N = false by rw [HQ.out, h1, h2]; rfl)
    have e1 := Lib.hid (cutL_f e2.out)
    go_in
    go_wp2_with (first | (go_at_call 12; refine (impl_GoodStrikes rfl h hz).mono ?_; rw [h1]; rintro e w1 ⟨rfl, hb1⟩) | (go_at_call 32; refine (impl_isStage _ _).mono ?_; rw [h2]; rintro e w' ⟨rfl, rfl⟩))
    go_ret2
    rw [e1.out, e2.out]
    exact ⟨none, 0, rfl, Owned.nil strE_len _ _ _, by decide, hb1⟩
  have hN := inB_t h2
  obtain ⟨m, rfl⟩ : ∃ m : Nat, N = (m : Int) := ⟨N.toNat, by omega⟩
  have hm3 : 3 ≤ m := by omega
  have hm8 : m ≤ 8 := by omega
  have HST := Lib.hid (goodStrikes_t h1)
  have hl2 := (goodStrikes_t h1).1
  have HQ2 := Lib.hid (show cutOk l (m : Int) = cutAll l m by rw [HQ.out, h1, h2]; rfl)
  clear HQ hN
  go_in
  go_wp2_with fail
  refine (impl_GoodStrikes rfl h hz).mono ?_; rw [h1]; rintro e w1 ⟨rfl, hb1⟩
  have HE := Lib.hid (Owned.empty (E := 9) strE_len w1 hb1.size)
  have HB1 := hb1
  go_wp2_with (first | (go_at_call 32; refine (impl_isStage _ _).mono ?_; rw [h2]; rintro e w' ⟨rfl, rfl⟩))
  go_loopw [6, 7] (fun v i wr => ∃ (k q : Nat) (A' : Option Addr) (c' : Nat), Hid (q = k * m) ∧ k ≤ q ∧ q ≤ l.length ∧ i = .int .i64 q ∧ v = .slice A' k c' ∧ Hid (Owned strE 1 9 wr w.heap.size A' k c' (cutR l m k)) ∧ Hid (∀ j, j < k → goodRow (cutAt l m j) = true) ∧ Below w.heap.size w wr) (fun _ i _ => l.length - (intOf i).toNat)
  case atStart => exact ⟨0, 0, _, _, Lib.hid (by simp), Nat.le_refl _, Nat.zero_le _, rfl, rfl, HE, Lib.hid (fun j hj => absurd hj (by omega)), by (repeat' (first | (with_reducible exact Below.refl _ _) | (with_reducible assumption) | (with_reducible refine below_drewN ?_ _) | (with_reducible refine Below.drew ?_) | (with_reducible refine below_alloc ?_ _) | (with_reducible refine Below.alloc ?_ ?_ _) | (with_reducible refine Below.setCell ?_ ?_ _) | (with_reducible refine below_go ?_ (by with_reducible assumption)) | (with_reducible refine below_then (by with_reducible assumption) ?_ ?_) | go_size))⟩
  case round =>
    obtain ⟨k, q, A1, c1, HK, hkq, hq, rfl, rfl, HO, HG, hbr⟩ := hrel
    rename World => wo
    have hszo := hbr.size
    have hwq : IntKind.i64.wrap ((q : Int) + (m : Int)) = ((q + m : Nat) : Int) := by rw [wrap_id (by omega)]; omega
    by_cases hlt : q + m ≤ l.length
    · have hkd : k < l.length / m := (cut_step (by omega)).1 (by rw [← HK.out]; exact hlt)
      have hr := h.below hbr (Nat.le_refl _)
      obtain ⟨b1, o1, hA, hbb, _⟩ := hr.cells (by omega)
      subst hA
      have hsub := hr.sub hlt
      have hsl : ((l.drop q).take m).length = m := by rw [List.length_take, List.length_drop]; omega
      obtain ⟨S, hS⟩ : ∃ S, S = (l.drop q).take m := ⟨_, rfl⟩
      rw [← hS] at hsub hsl
      have HSB := Lib.hid hsub
      have HSE := Lib.hid (show rowB S = cutAt l m k by rw [cutAt, ← HK.out, hS])
      have HSM := Lib.hid (fun (x : Int × Int) (hx : x ∈ S) => HST.out.2 x (by rw [hS] at hx; exact List.mem_of_mem_drop (List.mem_of_mem_take hx)))
      have HSL := Lib.hid hsl
      have hI : (q : Int) + (m : Int) ≤ (l.length : Int) := by omega
      have hI2 : (q : Int) ≤ (q : Int) + (m : Int) := by omega
      have hqm : q + m - q = m := by omega
      have hcapI : (q : Int) + (m : Int) ≤ (c : Int) := by omega
      clear hS hsub hsl hr
      go_wp2
      try simp only [hqm]
      go_loopw [8, 36] (fun r j wv => ∃ t : Nat, t ≤ m ∧ j = .int .i64 t ∧ r = .string (rowB (S.take t)) ∧ Below wo.heap.size wo wv) (fun _ j _ => m - (intOf j).toNat)
      case atStart => exact ⟨0, Nat.zero_le _, rfl, rfl, Below.refl _ _⟩
      case round =>
        obtain ⟨t, ht, rfl, rfl, hbv⟩ := hrel
        rename World => wv
        obtain ⟨s, hs0⟩ : ∃ s, s = rowB (S.take t) := ⟨_, rfl⟩
        have hss : s.size = t := by rw [hs0, rowB_size, List.length_take, HSL.out]; omega
        rw [← hs0]
        have HS0 := Lib.hid hs0
        clear hs0
        by_cases htm : t < m
        · obtain ⟨x, hx⟩ := some_of_lt (l := S) (k := t) (by rw [HSL.out]; exact htm)
          have hxb := HSM.out x (List.mem_of_getElem? hx)
          obtain ⟨b2, o2, e2, hbb2, hc0, hc1⟩ := (HSB.out.up hbv).at_2 hx
          injection e2 with e2
          injection e2 with e3 e4 _
          subst e3 e4
          have HS1 := Lib.hid (show s ++ dig1 x.1 = rowB (S.take (t + 1)) by rw [HS0.out, take_succ_some hx, rowB_snoc])
          have hd1 : (dig1 x.1).size = 1 := rfl
          have hx9 : 0 ≤ x.1 ∧ x.1 ≤ 9 := by omega
          clear hx
          go_wp2_with (first | (go_at_call 33; refine (impl_decimal_1 hx9.1 hx9.2).mono ?_; rintro e w9 ⟨rfl, hb9⟩))
          go_roundw
          case rel => exact ⟨t + 1, by omega, by go_num, by rw [← HS1.out], by (repeat' (first | (with_reducible exact Below.refl _ _) | (with_reducible assumption) | (with_reducible refine below_drewN ?_ _) | (with_reducible refine Below.drew ?_) | (with_reducible refine below_alloc ?_ _) | (with_reducible refine Below.alloc ?_ ?_ _) | (with_reducible refine Below.setCell ?_ ?_ _) | (with_reducible refine below_go ?_ (by with_reducible assumption)) | (with_reducible refine below_then (by with_reducible assumption) ?_ ?_) | go_size))⟩
          case measure => simp [intOf]; omega
        · obtain rfl : t = m := by omega
          have hsy : s = cutAt l t k := by rw [HS0.out, List.take_of_length_le (by rw [HSL.out]; omega), HSE.out]
          have HSY := Lib.hid hsy
          have hsz : s.size ≤ 16777216 := by omega
          clear hsy
          have hBv := below_go hbr hbv
          have HOv := Lib.hid (HO.out.up hbv)
          have hszv := hBv.size
          rcases hg : goodRow s
          · have e2 := Lib.hid (show cutOk l (t : Int) = false by rw [HQ2.out]; exact cut_bad hkd (by rw [← HSY.out]; exact hg))
            have e1 := Lib.hid (cutL_f e2.out)
            go_wp2_with (first | (go_at_call 34; refine (impl_GoodRow hsz).mono ?_; rw [hg]; rintro e w8 ⟨rfl, rfl⟩))
            go_ret2
            rw [e1.out, e2.out]
            exact ⟨none, 0, rfl, Owned.nil strE_len _ _ _, by decide, hBv⟩
          · have HG2 := Lib.hid (show ∀ j, j < k + 1 → goodRow (cutAt l t j) = true from fun j hj => by
              by_cases e : j < k
              · exact HG.out j e
              · obtain rfl : j = k := by omega
                rw [← HSY.out]; exact hg)
            have HT := Lib.hid (show cutR l t (k + 1) = cutR l t k ++ [s] by rw [cutR_succ, HSY.out])
            have HKN := Lib.hid (show q + t = (k + 1) * t by rw [Nat.succ_mul, ← HK.out])
            go_wp2_with (first | (go_at_call 34; refine (impl_GoodRow hsz).mono ?_; rw [hg]; rintro e w8 ⟨rfl, rfl⟩; have HO8 := HOv; have hB8 := hBv) | (at_builtin; go_must ((refine wpList_append_recs Tryd.elStr strE_one rfl (.tmp 49) (.tmp 51) rfl rfl (HO8.out.alloc _) rfl (own_lit1_at' strE_len _ 9 s rfl (Nat.le_refl _)).recs rfl ?_ (by decide) ?_ ?_; (focus (first | omega | (simp only [World.size_alloc]; done) | (simp only [World.size_alloc]; omega) | (simp; done) | (simp; omega))); (simp; omega); intro A3 c3 w6 ho6 hg6 hl6; have hb6 : Below w.heap.size w w6 := (hB8.alloc hB8.size _).trans (grown_base hg6 (by simp; omega) (fun z hz => (HO8.out.range z hz).1))))))
            go_roundw
            case rel => exact ⟨k + 1, q + t, A3, c3, HKN, by omega, by omega, by go_num, by go_num, Lib.hid (by rw [HT.out]; exact ho6), HG2, hb6⟩
            case measure => simp [intOf]; omega
    · have hge : ¬ k < l.length / m := fun e => hlt (by have := (cut_step (a := l.length) (n := m) (k := k) (by omega)).2 e; rw [← HK.out] at this; exact this)
      have hle : k ≤ l.length / m := by
        by_cases hk0 : k = 0
        · rw [hk0]; exact Nat.zero_le _
        · have := (cut_step (a := l.length) (n := m) (k := k - 1) (by omega)).1 (by
            have e : (k - 1) * m + m = k * m := by
              obtain ⟨j, rfl⟩ : ∃ j, k = j + 1 := ⟨k - 1, by omega⟩
              rw [Nat.add_sub_cancel, Nat.succ_mul]
            rw [e, ← HK.out]; exact hq)
          omega
      have e2 := Lib.hid (show cutOk l (m : Int) = true by rw [HQ2.out]; exact cut_good (fun j hj => HG.out j (by omega)))
      have e1 := Lib.hid (show cutL l (m : Int) = cutR l m k by rw [cutL_t e2.out, cutR, show k = l.length / m by omega])
      have hI : ¬ (q : Int) + (m : Int) ≤ (l.length : Int) := by omega
      have hI' : (l.length : Int) < (q : Int) + (m : Int) := by omega
      go_wp2
      go_ret2
      rw [e1.out, e2.out]
      have ho := HO.out
      have hkl : (cutR l m k).length = k := by rw [cutR, List.length_map, List.length_range]
      rw [hkl]
      exact ⟨_, _, rfl, ho, by omega, hbr⟩
set_option maxHeartbeats 2000000 in
set_option maxRecDepth 100000 in
theorem spec_CutRows {A : Option Addr} {n c : Nat} {l : List (Int × Int)} {N : Int} {w : World} (hn : l.length = n) (h : Recs strikeE 2 w A l) (hz : n ≤ 16777216) (hcap : n ≤ c) :
    Calls Tryd.prog 17 #[.slice A n c, .int .i64 N] w fun e w' => ∃ A' c', e = .returned (.tuple #[.slice A' (cutL l N).length c', .bool (cutOk l N)]) ∧ Owned strE 1 9 w' w.heap.size A' (cutL l N).length c' (cutL l N) ∧ (cutL l N).length ≤ 16777216 ∧ Below w.heap.size w w' := by
  subst hn
  have HQ : Hid (cutOk l N = ((goodStrikes l && inB N 3 8) && cutAll l N.toNat)) := Lib.hid rfl
  rcases h1 : goodStrikes l
  · have e2 := Lib.hid (show cutOk l N = false by rw [HQ.out, h1]; rfl)
    have e1 := Lib.hid (cutL_f e2.out)
    go_in
    go_wp2_with (first | (go_at_call 29; refine (spec_l21Good rfl h hz).mono ?_; rw [h1]; rintro e w1 ⟨rfl, hb1⟩))
    go_ret2
    rw [e1.out, e2.out]
    exact ⟨none, 0, rfl, Owned.nil strE_len _ _ _, by decide, hb1⟩
  rcases h2 : inB N 3 8
  · have e2 := Lib.hid (show cutOk l N = false by rw [HQ.out, h1, h2]; rfl)
    have e1 := Lib.hid (cutL_f e2.out)
    go_in
    go_wp2_with (first | (go_at_call 29; refine (spec_l21Good rfl h hz).mono ?_; rw [h1]; rintro e w1 ⟨rfl, hb1⟩) | (go_at_call 39; refine (spec_l1In _ _ _ _).mono ?_; rw [h2]; rintro e w' ⟨rfl, rfl⟩))
    go_ret2
    rw [e1.out, e2.out]
    exact ⟨none, 0, rfl, Owned.nil strE_len _ _ _, by decide, hb1⟩
  have hN := inB_t h2
  obtain ⟨m, rfl⟩ : ∃ m : Nat, N = (m : Int) := ⟨N.toNat, by omega⟩
  have hm3 : 3 ≤ m := by omega
  have hm8 : m ≤ 8 := by omega
  have HST := Lib.hid (goodStrikes_t h1)
  have hl2 := (goodStrikes_t h1).1
  have HQ2 := Lib.hid (show cutOk l (m : Int) = cutAll l m by rw [HQ.out, h1, h2]; rfl)
  clear HQ hN
  go_in
  go_wp2_with fail
  refine (spec_l21Good rfl h hz).mono ?_; rw [h1]; rintro e w1 ⟨rfl, hb1⟩
  have HE := Lib.hid (Owned.nil strE_len 9 w1 w.heap.size)
  have HB1 := hb1
  go_wp2_with (first | (go_at_call 39; refine (spec_l1In _ _ _ _).mono ?_; rw [h2]; rintro e w' ⟨rfl, rfl⟩))
  go_loopw [6, 7] (fun v i wr => ∃ (k q : Nat) (A' : Option Addr) (c' : Nat), Hid (q = k * m) ∧ k ≤ q ∧ q ≤ l.length ∧ i = .int .i64 q ∧ v = .slice A' k c' ∧ Hid (Owned strE 1 9 wr w.heap.size A' k c' (cutR l m k)) ∧ Hid (∀ j, j < k → goodRow (cutAt l m j) = true) ∧ Below w.heap.size w wr) (fun _ i _ => l.length - (intOf i).toNat)
  case atStart => exact ⟨0, 0, _, _, Lib.hid (by simp), Nat.le_refl _, Nat.zero_le _, rfl, rfl, HE, Lib.hid (fun j hj => absurd hj (by omega)), by (repeat' (first | (with_reducible exact Below.refl _ _) | (with_reducible assumption) | (with_reducible refine below_drewN ?_ _) | (with_reducible refine Below.drew ?_) | (with_reducible refine below_alloc ?_ _) | (with_reducible refine Below.alloc ?_ ?_ _) | (with_reducible refine Below.setCell ?_ ?_ _) | (with_reducible refine below_go ?_ (by with_reducible assumption)) | (with_reducible refine below_then (by with_reducible assumption) ?_ ?_) | go_size))⟩
  case round =>
    obtain ⟨k, q, A1, c1, HK, hkq, hq, rfl, rfl, HO, HG, hbr⟩ := hrel
    rename World => wo
    have hszo := hbr.size
    have hwq : IntKind.i64.wrap ((q : Int) + (m : Int)) = ((q + m : Nat) : Int) := by rw [wrap_id (by omega)]; omega
    by_cases hlt : q + m ≤ l.length
    · have hkd : k < l.length / m := (cut_step (by omega)).1 (by rw [← HK.out]; exact hlt)
      have hr := h.below hbr (Nat.le_refl _)
      obtain ⟨b1, o1, hA, hbb, _⟩ := hr.cells (by omega)
      subst hA
      have hsub := hr.sub hlt
      have hsl : ((l.drop q).take m).length = m := by rw [List.length_take, List.length_drop]; omega
      obtain ⟨S, hS⟩ : ∃ S, S = (l.drop q).take m := ⟨_, rfl⟩
      rw [← hS] at hsub hsl
      have HSB := Lib.hid hsub
      have HSE := Lib.hid (show rowB S = cutAt l m k by rw [cutAt, ← HK.out, hS])
      have HSM := Lib.hid (fun (x : Int × Int) (hx : x ∈ S) => HST.out.2 x (by rw [hS] at hx; exact List.mem_of_mem_drop (List.mem_of_mem_take hx)))
      have HSL := Lib.hid hsl
      have hI : (q : Int) + (m : Int) ≤ (l.length : Int) := by omega
      have hI2 : (q : Int) ≤ (q : Int) + (m : Int) := by omega
      have hqm : q + m - q = m := by omega
      have hcapI : (q : Int) + (m : Int) ≤ (c : Int) := by omega
      clear hS hsub hsl hr
      go_wp2
      try simp only [hqm]
      go_loopw [8, 35] (fun r j wv => ∃ t : Nat, t ≤ m ∧ j = .int .i64 t ∧ r = .string (rowB (S.take t)) ∧ Below wo.heap.size wo wv) (fun _ j _ => m - (intOf j).toNat)
      case atStart => exact ⟨0, Nat.zero_le _, rfl, rfl, Below.refl _ _⟩
      case round =>
        obtain ⟨t, ht, rfl, rfl, hbv⟩ := hrel
        rename World => wv
        obtain ⟨s, hs0⟩ : ∃ s, s = rowB (S.take t) := ⟨_, rfl⟩
        have hss : s.size = t := by rw [hs0, rowB_size, List.length_take, HSL.out]; omega
        rw [← hs0]
        have HS0 := Lib.hid hs0
        clear hs0
        by_cases htm : t < m
        · obtain ⟨x, hx⟩ := some_of_lt (l := S) (k := t) (by rw [HSL.out]; exact htm)
          have hxb := HSM.out x (List.mem_of_getElem? hx)
          obtain ⟨b2, o2, e2, hbb2, hc0, hc1⟩ := (HSB.out.up hbv).at_2 hx
          injection e2 with e2
          injection e2 with e3 e4 _
          subst e3 e4
          have HS1 := Lib.hid (show s ++ dig1 x.1 = rowB (S.take (t + 1)) by rw [HS0.out, take_succ_some hx, rowB_snoc])
          have hd1 : (dig1 x.1).size = 1 := rfl
          have hx9 : 0 ≤ x.1 ∧ x.1 ≤ 9 := by omega
          clear hx
          go_wp2_with (first | (go_at_call 40; refine (spec_l1Num_1 hx9.1 hx9.2).mono ?_; rintro e w9 ⟨rfl, hb9⟩))
          go_roundw
          case rel => exact ⟨t + 1, by omega, by go_num, by rw [← HS1.out], by (repeat' (first | (with_reducible exact Below.refl _ _) | (with_reducible assumption) | (with_reducible refine below_drewN ?_ _) | (with_reducible refine Below.drew ?_) | (with_reducible refine below_alloc ?_ _) | (with_reducible refine Below.alloc ?_ ?_ _) | (with_reducible refine Below.setCell ?_ ?_ _) | (with_reducible refine below_go ?_ (by with_reducible assumption)) | (with_reducible refine below_then (by with_reducible assumption) ?_ ?_) | go_size))⟩
          case measure => simp [intOf]; omega
        · obtain rfl : t = m := by omega
          have hsy : s = cutAt l t k := by rw [HS0.out, List.take_of_length_le (by rw [HSL.out]; omega), HSE.out]
          have HSY := Lib.hid hsy
          have hsz : s.size ≤ 16777216 := by omega
          clear hsy
          have hBv := below_go hbr hbv
          have HOv := Lib.hid (HO.out.up hbv)
          have hszv := hBv.size
          rcases hg : goodRow s
          · have e2 := Lib.hid (show cutOk l (t : Int) = false by rw [HQ2.out]; exact cut_bad hkd (by rw [← HSY.out]; exact hg))
            have e1 := Lib.hid (cutL_f e2.out)
            go_wp2_with (first | (go_at_call 41; refine (spec_l1Row hsz).mono ?_; rw [hg]; rintro e w8 ⟨rfl, hb8⟩))
            go_ret2
            rw [e1.out, e2.out]
            exact ⟨none, 0, rfl, Owned.nil strE_len _ _ _, by decide, below_go hBv hb8⟩
          · have HG2 := Lib.hid (show ∀ j, j < k + 1 → goodRow (cutAt l t j) = true from fun j hj => by
              by_cases e : j < k
              · exact HG.out j e
              · obtain rfl : j = k := by omega
                rw [← HSY.out]; exact hg)
            have HT := Lib.hid (show cutR l t (k + 1) = cutR l t k ++ [s] by rw [cutR_succ, HSY.out])
            have HKN := Lib.hid (show q + t = (k + 1) * t by rw [Nat.succ_mul, ← HK.out])
            go_wp2_with (first | (go_at_call 41; refine (spec_l1Row hsz).mono ?_; rw [hg]; rintro e w8 ⟨rfl, hb8⟩; have HO8 := Lib.hid (HOv.out.up hb8); have hB8 := below_go hBv hb8; have hs8 := hB8.size) | (at_builtin; go_must ((refine wpList_append_recs Tryd.elStr strE_one rfl (.tmp 48) (.tmp 50) rfl rfl (HO8.out.alloc _) rfl (own_lit1_at' strE_len _ 9 s rfl (Nat.le_refl _)).recs rfl ?_ (by decide) ?_ ?_; (focus (first | omega | (simp only [World.size_alloc]; done) | (simp only [World.size_alloc]; omega) | (simp; done) | (simp; omega))); (simp; omega); intro A3 c3 w6 ho6 hg6 hl6; have hb6 : Below w.heap.size w w6 := (hB8.alloc hB8.size _).trans (grown_base hg6 (by simp; omega) (fun z hz => (HO8.out.range z hz).1))))))
            go_roundw
            case rel => exact ⟨k + 1, q + t, A3, c3, HKN, by omega, by omega, by go_num, by go_num, Lib.hid (by rw [HT.out]; exact ho6), HG2, hb6⟩
            case measure => simp [intOf]; omega
    · have hge : ¬ k < l.length / m := fun e => hlt (by have := (cut_step (a := l.length) (n := m) (k := k) (by omega)).2 e; rw [← HK.out] at this; exact this)
      have hle : k ≤ l.length / m := by
        by_cases hk0 : k = 0
        · rw [hk0]; exact Nat.zero_le _
        · have := (cut_step (a := l.length) (n := m) (k := k - 1) (by omega)).1 (by
            have e : (k - 1) * m + m = k * m := by
              obtain ⟨j, rfl⟩ : ∃ j, k = j + 1 := ⟨k - 1, by omega⟩
              rw [Nat.add_sub_cancel, Nat.succ_mul]
            rw [e, ← HK.out]; exact hq)
          omega
      have e2 := Lib.hid (show cutOk l (m : Int) = true by rw [HQ2.out]; exact cut_good (fun j hj => HG.out j (by omega)))
      have e1 := Lib.hid (show cutL l (m : Int) = cutR l m k by rw [cutL_t e2.out, cutR, show k = l.length / m by omega])
      have hI : ¬ (q : Int) + (m : Int) ≤ (l.length : Int) := by omega
      have hI' : (l.length : Int) < (q : Int) + (m : Int) := by omega
      go_wp2
      go_ret2
      rw [e1.out, e2.out]
      have ho := HO.out
      have hkl : (cutR l m k).length = k := by rw [cutR, List.length_map, List.length_range]
      rw [hkl]
      exact ⟨_, _, rfl, ho, by omega, hbr⟩
end Go.Proofs.YtpccbmndgdiloaaDoor
/- The walk through FnStrikes: for all bytes the law answers true. -/
namespace Go.Proofs.YtpccbmndgdiloaaDoor
set_option linter.unusedVariables false
set_option linter.unusedSimpArgs false
open Go.ChangeShapes Go.WideShapes Go.ChangeAt Go.RowKit Go.Deep
set_option maxHeartbeats 4000000 in
set_option maxRecDepth 100000 in
theorem law_Strikes (A0 : Option Addr) (c0 : Nat) (l0 : List Int) (A1 : Option Addr) (c1 : Nat) (l1 : List Int) (w : World) (h0 : Recs byteE 1 w A0 l0) (hm0 : l0.length ≤ 9223372036854775807) (hb0 : ∀ x ∈ l0, 0 ≤ x ∧ x ≤ 255)
    (h1 : Recs byteE 1 w A1 l1) (hm1 : l1.length ≤ 9223372036854775807) (hb1 : ∀ x ∈ l1, 0 ≤ x ∧ x ≤ 255) :
    Calls Tryd.prog 3 #[.slice A0 l0.length c0, .slice A1 l1.length c1] w fun e w' => e = .returned (.bool true) ∧ Below w.heap.size w w' := by
  by_cases hz : l0.length + l1.length ≤ 1048576
  · have S0 := Lib.hid (show Src w A0 l0.length from ⟨l0, rfl, by omega, hb0, h0⟩)
    have S1 := Lib.hid (show Src w A1 l1.length from ⟨l1, rfl, by omega, hb1, h1⟩)
    clear h0 h1 hb0 hb1
    go_in
    go_wp2_with fail
    refine (laws_big3 _ _ _ _ _ _ _ (by omega) (by omega)).mono ?_; rintro e w' ⟨rfl, rfl⟩
    go_wp2_with fail
    refine (draw_IdealStrikes S0.out).mono ?_; rintro e w1 ⟨x, y, z, A1, n1, c1, L1, rfl, e1, k1, d1, R1, hB1⟩
    subst e1
    have HW := hB1
    have HD := Lib.hid d1
    clear hB1 d1
    have hbb : Below w1.heap.size w1 (w1.alloc (.cells #[.int .i64 x, .int .i64 y, .int .i64 z] 25)) := by (repeat' (first | (with_reducible exact Below.refl _ _) | (with_reducible assumption) | (with_reducible refine below_drewN ?_ _) | (with_reducible refine Below.drew ?_) | (with_reducible refine below_alloc ?_ _) | (with_reducible refine Below.alloc ?_ ?_ _) | (with_reducible refine Below.setCell ?_ ?_ _) | (with_reducible refine below_go ?_ (by with_reducible assumption)) | (with_reducible refine below_then (by with_reducible assumption) ?_ ?_) | go_size))
    have K1 := Blk.at_ w1 25 [.int .i64 x, .int .i64 y, .int .i64 z] (b := w1.heap.size) rfl
    go_upto_region 4 with fail
    obtain ⟨v1, hv⟩ : ∃ u, u = w1.alloc (.cells #[.int .i64 x, .int .i64 y, .int .i64 z] 25) := ⟨_, rfl⟩
    rw [← hv] at hbb K1 ⊢
    clear hv
    have R1 := R1.up hbb
    have HW := below_go HW hbb
    clear hbb
    have p0 := K1.cell 0; have p1 := K1.cell 1; have p2 := K1.cell 2
    simp only [List.getElem?_cons_zero, List.getElem?_cons_succ] at p0 p1 p2
    obtain ⟨M, hM⟩ : ∃ u, u = idlR x y z L1 := ⟨_, rfl⟩
    have GM := Lib.hid hM
    clear hM
    rcases hA : idlOk x y z L1
    · go_wp2_with fail
      refine (impl_IdealStrikes rfl R1 (by omega) HD.out).mono ?_; rw [hA, ← GM.out]; rintro e w4 ⟨A5, c5, rfl, o5, z5, hb4⟩
      have R1 := R1.up hb4
      have K1 := K1.up hb4
      have HW := below_go HW hb4
      have cp5 := o5.cap.1
      have R5 := o5.recs
      clear hb4 o5
      have p0 := K1.cell 0; have p1 := K1.cell 1; have p2 := K1.cell 2
      simp only [List.getElem?_cons_zero, List.getElem?_cons_succ] at p0 p1 p2
      go_wp2_with fail
      refine (spec_IdealStrikes rfl R1 (by omega) HD.out).mono ?_; rw [hA, ← GM.out]; rintro e w6 ⟨A6, c6, rfl, o6, _, hb6⟩
      have R1 := R1.up hb6
      have K1 := K1.up hb6
      have R5 := R5.up hb6
      have HW := below_go HW hb6
      have R6 := o6.recs
      clear hb6 o6
      have p0 := K1.cell 0; have p1 := K1.cell 1; have p2 := K1.cell 2
      simp only [List.getElem?_cons_zero, List.getElem?_cons_succ] at p0 p1 p2
      have pd : w6.drew.cell? ⟨w1.heap.size, 0, none⟩ = some (.int .i64 x) ∧ w6.drew.cell? ⟨w1.heap.size, 1, none⟩ = some (.int .i64 y) ∧ w6.drew.cell? ⟨w1.heap.size, 2, none⟩ = some (.int .i64 z) := ⟨p0, p1, p2⟩
      have bd : Below w6.heap.size w6 w6.drew := below_drewN (Below.refl _ _) 1
      have KD : Blk w6.drew w1.heap.size 25 [.int .i64 x, .int .i64 y, .int .i64 z] := K1.up bd
      have far : Hid (∀ u : World, Below w6.drew.heap.size w6.drew u → u.cell? ⟨w1.heap.size, 0, none⟩ = some (.int .i64 x) ∧ u.cell? ⟨w1.heap.size, 1, none⟩ = some (.int .i64 y) ∧ u.cell? ⟨w1.heap.size, 2, none⟩ = some (.int .i64 z)) := Lib.hid (fun u h1 => by
        have K := KD.up h1
        exact ⟨by simpa using K.cell 0, by simpa using K.cell 1, by simpa using K.cell 2⟩)
      go_upto_region 6 with fail
      go_region_held3 (fun u => u.cell? ⟨w1.heap.size, 0, none⟩ = some (.int .i64 x) ∧ u.cell? ⟨w1.heap.size, 1, none⟩ = some (.int .i64 y) ∧ u.cell? ⟨w1.heap.size, 2, none⟩ = some (.int .i64 z)) (first | with_reducible exact pd | with_reducible exact f9 | with_reducible exact f8 | with_reducible exact f7) (first | (go_at_call 8; go_must (refine (laws_sameStrikesB rfl (R5.up bd) (R6.up bd) z5).mono ?_); rintro e w7 ⟨rfl, hb7⟩; have f7 := far.out _ hb7) | (go_at_call 9; go_must (refine (impl_GoodBeat x y z _).mono ?_); rintro e w8 ⟨rfl, hb8⟩; have g8 := below_go hb7 hb8; have f8 := far.out _ g8) | (go_at_call 10; go_must (refine (spec_GoodBeat x y z _).mono ?_); rintro e w9 ⟨rfl, hb9⟩; have g9 := below_go g8 hb9; have f9 := far.out _ g9))
      have hb9' := below_go bd g9
      have R1 := R1.up hb9'
      have K1 := K1.up hb9'
      have R5 := R5.up hb9'
      have R6 := R6.up hb9'
      have HW := below_go HW hb9'
      clear pd bd KD far f7 f8 f9 g8 g9 hb7 hb8 hb9 hb9' R6
      have p0 := K1.cell 0; have p1 := K1.cell 1; have p2 := K1.cell 2
      simp only [List.getElem?_cons_zero, List.getElem?_cons_succ] at p0 p1 p2
      clear R1 R5 K1 p0 p1 p2 GM hA
      go_wp2_with fail
      refine (draw_CutRows (S1.out.over HW)).mono ?_; rintro e w20 ⟨A20, m20, c20, L20, N20, rfl, e20, k20, q20, R20, hb20⟩
      have HW := below_go HW hb20
      clear hb20
      obtain ⟨M20, hM20⟩ : ∃ u, u = cutL L20 (N20 : Int) := ⟨_, rfl⟩
      have GM20 := Lib.hid hM20
      clear hM20
      obtain ⟨b20, hb20⟩ : ∃ u, u = cutOk L20 (N20 : Int) := ⟨_, rfl⟩
      have Gb20 := Lib.hid hb20
      clear hb20
      go_wp2_with fail
      refine (impl_CutRows (N := (N20 : Int)) e20 R20 (by omega) q20).mono ?_; rw [← GM20.out, ← Gb20.out]; rintro e w21 ⟨A21, c21, rfl, o21, z21, hb21⟩
      have R20 := R20.up hb21
      have HW := below_go HW hb21
      have R21 := o21.recs
      clear hb21 o21
      go_wp2_with fail
      refine (spec_CutRows (N := (N20 : Int)) e20 R20 (by omega) q20).mono ?_; rw [← GM20.out, ← Gb20.out]; rintro e w22 ⟨A22, c22, rfl, o22, _, hb22⟩
      have R21 := R21.up hb22
      have HW := below_go HW hb22
      have R22 := o22.recs
      clear hb22 o22 R20 GM20 Gb20
      go_wp2_with fail
      refine (draw_OfBell (S1.out.over HW)).mono ?_; rintro e w23 ⟨A23, m23, c23, L23, s23, rfl, e23, k23, R23, hb23⟩
      have R21 := R21.up hb23
      have R22 := R22.up hb23
      have HW := below_go HW hb23
      clear hb23
      obtain ⟨M23, hM23⟩ : ∃ u, u = bellR L23 s23 := ⟨_, rfl⟩
      have GM23 := Lib.hid hM23
      clear hM23
      obtain ⟨b23, hb23⟩ : ∃ u, u = bellOk L23 s23 := ⟨_, rfl⟩
      have Gb23 := Lib.hid hb23
      clear hb23
      go_wp2_with fail
      refine (impl_OfBell (d := s23) e23 R23 (by omega)).mono ?_; rw [← GM23.out, ← Gb23.out]; rintro e w24 ⟨A24, c24, rfl, o24, z24, hb24⟩
      have R21 := R21.up hb24
      have R22 := R22.up hb24
      have R23 := R23.up hb24
      have HW := below_go HW hb24
      have R24 := o24.recs
      clear hb24 o24
      go_wp2_with fail
      refine (spec_OfBell (d := s23) e23 R23 (by omega)).mono ?_; rw [← GM23.out, ← Gb23.out]; rintro e w25 ⟨A25, c25, rfl, o25, _, hb25⟩
      have R21 := R21.up hb25
      have R22 := R22.up hb25
      have R24 := R24.up hb25
      have HW := below_go HW hb25
      have R25 := o25.recs
      clear hb25 o25 R23 GM23 Gb23
      go_wp2_with fail
      refine (draw_BlowAt (S1.out.over HW)).mono ?_; rintro e w26 ⟨x, y, z, N26, r26, p26, rfl, hb26⟩
      have R21 := R21.up hb26
      have R22 := R22.up hb26
      have R24 := R24.up hb26
      have R25 := R25.up hb26
      have HW := below_go HW hb26
      clear hb26
      have hbb : Below w26.heap.size w26 (w26.alloc (.cells #[.int .i64 x, .int .i64 y, .int .i64 z] 25)) := by (repeat' (first | (with_reducible exact Below.refl _ _) | (with_reducible assumption) | (with_reducible refine below_drewN ?_ _) | (with_reducible refine Below.drew ?_) | (with_reducible refine below_alloc ?_ _) | (with_reducible refine Below.alloc ?_ ?_ _) | (with_reducible refine Below.setCell ?_ ?_ _) | (with_reducible refine below_go ?_ (by with_reducible assumption)) | (with_reducible refine below_then (by with_reducible assumption) ?_ ?_) | go_size))
      have K26 := Blk.at_ w26 25 [.int .i64 x, .int .i64 y, .int .i64 z] (b := w26.heap.size) rfl
      go_upto_region 33 with fail
      obtain ⟨v26, hv⟩ : ∃ u, u = w26.alloc (.cells #[.int .i64 x, .int .i64 y, .int .i64 z] 25) := ⟨_, rfl⟩
      rw [← hv] at hbb K26 ⊢
      clear hv
      have R21 := R21.up hbb
      have R22 := R22.up hbb
      have R24 := R24.up hbb
      have R25 := R25.up hbb
      have HW := below_go HW hbb
      clear hbb
      have p0 := K26.cell 0; have p1 := K26.cell 1; have p2 := K26.cell 2
      simp only [List.getElem?_cons_zero, List.getElem?_cons_succ] at p0 p1 p2
      obtain ⟨x27, hx27⟩ : ∃ u, u = blowV x y z N26 r26 p26 := ⟨_, rfl⟩
      have Gx27 := Lib.hid hx27
      clear hx27
      obtain ⟨b27, hb27⟩ : ∃ u, u = okBlow x y z N26 r26 p26 := ⟨_, rfl⟩
      have Gb27 := Lib.hid hb27
      clear hb27
      go_wp2_with fail
      refine (impl_BlowAt x y z N26 r26 p26 _).mono ?_; rw [← Gx27.out, ← Gb27.out]; rintro e w27 ⟨rfl, hb27⟩
      have R21 := R21.up hb27
      have R22 := R22.up hb27
      have R24 := R24.up hb27
      have R25 := R25.up hb27
      have K26 := K26.up hb27
      have HW := below_go HW hb27
      clear hb27
      have p0 := K26.cell 0; have p1 := K26.cell 1; have p2 := K26.cell 2
      simp only [List.getElem?_cons_zero, List.getElem?_cons_succ] at p0 p1 p2
      go_wp2_with fail
      refine (spec_BlowAt x y z N26 r26 p26 _).mono ?_; rw [← Gx27.out, ← Gb27.out]; rintro e w28 ⟨rfl, hb28⟩
      have R21 := R21.up hb28
      have R22 := R22.up hb28
      have R24 := R24.up hb28
      have R25 := R25.up hb28
      have K26 := K26.up hb28
      have HW := below_go HW hb28
      clear hb28 K26 p0 p1 p2 Gx27 Gb27
      go_wp2_with fail
      refine (laws_sameTextsB rfl R21 R22 z21).mono ?_; rintro e w33 ⟨rfl, hb33⟩
      have R21 := R21.up hb33
      have R22 := R22.up hb33
      have R24 := R24.up hb33
      have R25 := R25.up hb33
      have HW := below_go HW hb33
      clear hb33
      go_wp2_with fail
      refine (laws_sameIntsB rfl R24 R25 z24).mono ?_; rintro e w34 ⟨rfl, hb34⟩
      go_wp2
      go_ret
      exact ⟨rfl, below_go HW hb34⟩
    · go_wp2_with fail
      refine (impl_IdealStrikes rfl R1 (by omega) HD.out).mono ?_; rw [hA, ← GM.out]; rintro e w4 ⟨A5, c5, rfl, o5, z5, hb4⟩
      have R1 := R1.up hb4
      have K1 := K1.up hb4
      have HW := below_go HW hb4
      have cp5 := o5.cap.1
      have R5 := o5.recs
      clear hb4 o5
      have p0 := K1.cell 0; have p1 := K1.cell 1; have p2 := K1.cell 2
      simp only [List.getElem?_cons_zero, List.getElem?_cons_succ] at p0 p1 p2
      go_wp2_with fail
      refine (spec_IdealStrikes rfl R1 (by omega) HD.out).mono ?_; rw [hA, ← GM.out]; rintro e w6 ⟨A6, c6, rfl, o6, _, hb6⟩
      have R1 := R1.up hb6
      have K1 := K1.up hb6
      have R5 := R5.up hb6
      have HW := below_go HW hb6
      have R6 := o6.recs
      clear hb6 o6
      have p0 := K1.cell 0; have p1 := K1.cell 1; have p2 := K1.cell 2
      simp only [List.getElem?_cons_zero, List.getElem?_cons_succ] at p0 p1 p2
      have pd : w6.drew.cell? ⟨w1.heap.size, 0, none⟩ = some (.int .i64 x) ∧ w6.drew.cell? ⟨w1.heap.size, 1, none⟩ = some (.int .i64 y) ∧ w6.drew.cell? ⟨w1.heap.size, 2, none⟩ = some (.int .i64 z) := ⟨p0, p1, p2⟩
      have bd : Below w6.heap.size w6 w6.drew := below_drewN (Below.refl _ _) 1
      have KD : Blk w6.drew w1.heap.size 25 [.int .i64 x, .int .i64 y, .int .i64 z] := K1.up bd
      have far : Hid (∀ u : World, Below w6.drew.heap.size w6.drew u → u.cell? ⟨w1.heap.size, 0, none⟩ = some (.int .i64 x) ∧ u.cell? ⟨w1.heap.size, 1, none⟩ = some (.int .i64 y) ∧ u.cell? ⟨w1.heap.size, 2, none⟩ = some (.int .i64 z)) := Lib.hid (fun u h1 => by
        have K := KD.up h1
        exact ⟨by simpa using K.cell 0, by simpa using K.cell 1, by simpa using K.cell 2⟩)
      go_upto_region 6 with fail
      go_region_held3 (fun u => u.cell? ⟨w1.heap.size, 0, none⟩ = some (.int .i64 x) ∧ u.cell? ⟨w1.heap.size, 1, none⟩ = some (.int .i64 y) ∧ u.cell? ⟨w1.heap.size, 2, none⟩ = some (.int .i64 z)) (first | with_reducible exact pd | with_reducible exact f9 | with_reducible exact f8 | with_reducible exact f7) (first | (go_at_call 8; go_must (refine (laws_sameStrikesB rfl (R5.up bd) (R6.up bd) z5).mono ?_); rintro e w7 ⟨rfl, hb7⟩; have f7 := far.out _ hb7) | (go_at_call 9; go_must (refine (impl_GoodBeat x y z _).mono ?_); rintro e w8 ⟨rfl, hb8⟩; have g8 := below_go hb7 hb8; have f8 := far.out _ g8) | (go_at_call 10; go_must (refine (spec_GoodBeat x y z _).mono ?_); rintro e w9 ⟨rfl, hb9⟩; have g9 := below_go g8 hb9; have f9 := far.out _ g9))
      have hb9' := below_go bd g9
      have R1 := R1.up hb9'
      have K1 := K1.up hb9'
      have R5 := R5.up hb9'
      have R6 := R6.up hb9'
      have HW := below_go HW hb9'
      clear pd bd KD far f7 f8 f9 g8 g9 hb7 hb8 hb9 hb9' R6
      have p0 := K1.cell 0; have p1 := K1.cell 1; have p2 := K1.cell 2
      simp only [List.getElem?_cons_zero, List.getElem?_cons_succ] at p0 p1 p2
      by_cases hn0 : 0 < L1.length
      · have hnI : (0 : Int) < (L1.length : Int) := by omega
        obtain ⟨r0, hr0⟩ := some_of_lt (l := L1) (k := 0) (hn0)
        have SA := strikes_all hA hr0
        rw [← GM.out] at SA
        obtain ⟨⟨s3, s8⟩, sg, sl, _, sc, sL, sat, smon, sbell⟩ := SA
        have HB : Hid (∀ s ∈ M, 0 ≤ s.2 ∧ s.2 ≤ 1000000) := Lib.hid (fun s hs => ((goodStrikes_t sg).2 s hs).2)
        have hyb : 1 ≤ y ∧ y ≤ 2000 := by simp only [idlOk, Bool.and_eq_true] at hA; exact (goodBeat_t hA.1).2.1
        obtain ⟨bA, oA, rr, hAA, hbb, hrr, hcr⟩ := R1.at_str (k := 0) (hn0)
        rw [hr0] at hrr
        injection hrr with hrr
        subst hrr
        subst hAA
        simp only [Nat.add_zero] at hcr
        obtain ⟨n, hn⟩ : ∃ n, n = r0.size := ⟨_, rfl⟩
        rw [← hn] at s3 s8 sl sc sL sat sbell
        have HN := Lib.hid hn
        have HSL := Lib.hid sl
        have HCL := Lib.hid sL
        have HAT := Lib.hid sat
        have HMON := Lib.hid smon
        have HBELL := Lib.hid sbell
        have hML : M.length ≤ 96 := by
          have h1 : L1.length * n ≤ 12 * 8 := Nat.mul_le_mul (by omega) s8
          omega
        clear hr0 hn sl sL sat smon sbell hA
        have hnr : (r0.size : Int) = (n : Int) := by rw [HN.out]
        go_wp2_with fail
        refine (impl_CutRows (N := (n : Int)) rfl R5 (by omega) cp5).mono ?_; rw [sc, HCL.out]; rintro e w10 ⟨A10, c10, rfl, o10, z10, hb10⟩
        have R10 := o10.recs
        have R1 := R1.up hb10
        have R5 := R5.up hb10
        have K1 := K1.up hb10
        have HW := below_go HW hb10
        clear hb10 o10 hcr hnr sc
        go_wp2_with fail
        refine (impl_GoodStrikes rfl R5 (by omega)).mono ?_; rw [sg]; rintro e w11 ⟨rfl, hb11⟩
        have R1 := R1.up hb11
        have R5 := R5.up hb11
        have K1 := K1.up hb11
        have R10 := R10.up hb11
        have HW := below_go HW hb11
        clear hb11 sg
        have hmul : (n : Int) * (L1.length : Int) = (M.length : Int) := by rw [HSL.out]; simp [Int.mul_comm]
        go_wp2_with fail
        refine (laws_sameTextsB rfl R10 R1 (by omega)).mono ?_; rintro e w12 ⟨rfl, hb12⟩
        have R1 := R1.up hb12
        have R5 := R5.up hb12
        have K1 := K1.up hb12
        have HW := below_go HW hb12
        clear hb12 R10
        have HK := Lib.hid K1
        have HR5 := Lib.hid R5
        have HWW := Lib.hid HW
        clear K1 R5 HW p0 p1 p2
        go_wp2
        clear hmul
        go_loopw [116] (fun i wr => ∃ k : Nat, k ≤ M.length ∧ i = .int .i64 k ∧ Below w12.heap.size w12 wr) (fun i _ => M.length - (intOf i).toNat)
        case atStart => exact ⟨0, Nat.zero_le _, rfl, Below.refl _ _⟩
        case round =>
          obtain ⟨k, hk, rfl, hb⟩ := hrel
          rename World => wr
          by_cases hlt : k < M.length
          · have hI : (k : Int) < (M.length : Int) := by omega
            obtain ⟨hok, d, hd⟩ := HAT.out k hlt
            obtain ⟨q, hq⟩ : ∃ q, q = k / n := ⟨_, rfl⟩
            obtain ⟨m, hm⟩ : ∃ m, m = k % n := ⟨_, rfl⟩
            have hqk : q ≤ k := by rw [hq]; exact Nat.div_le_self k n
            have hmn : m < n := by rw [hm]; exact Nat.mod_lt k (by omega)
            have E1 : IntKind.i64.wrap ((k : Int) / (n : Int)) = (q : Int) := by
              rw [show (k : Int) / (n : Int) = (q : Int) by rw [hq]; simp]; exact wrap_id (by omega)
            have E2 : (k : Int) % (n : Int) = (m : Int) := by rw [hm]; simp
            have E3 : IntKind.i64.wrap ((m : Int) + 1) = (m : Int) + 1 := wrap_id (by omega)
            have hnz : ¬ (n : Int) = 0 := by omega
            have hnz' : ¬ n = 0 := by omega
            have E1t : (k : Int).tdiv (n : Int) = (q : Int) := by rw [Int.tdiv_eq_ediv_of_nonneg (by omega), hq]; simp
            have E2t : (k : Int).tmod (n : Int) = (m : Int) := by rw [Int.tmod_eq_emod_of_nonneg (by omega), hm]; simp
            have E1w : IntKind.i64.wrap (q : Int) = (q : Int) := wrap_id (by omega)
            have E2w : IntKind.i64.wrap (m : Int) = (m : Int) := wrap_id (by omega)
            rw [← hq, ← hm] at hok hd
            obtain ⟨V, hV⟩ : ∃ V, V = blowV x y z n q ((m : Int) + 1) := ⟨_, rfl⟩
            have HV := Lib.hid hV
            rw [← hV] at hd
            clear hq hm hV
            have hdb := HB.out _ (List.mem_of_getElem? hd)
            dsimp only at hdb
            have KW := HK.out.up hb
            have p0 := KW.cell 0; have p1 := KW.cell 1; have p2 := KW.cell 2
            simp only [List.getElem?_cons_zero, List.getElem?_cons_succ] at p0 p1 p2
            have pd : wr.drew.cell? ⟨w1.heap.size, 0, none⟩ = some (.int .i64 x) ∧ wr.drew.cell? ⟨w1.heap.size, 1, none⟩ = some (.int .i64 y) ∧ wr.drew.cell? ⟨w1.heap.size, 2, none⟩ = some (.int .i64 z) := ⟨p0, p1, p2⟩
            have bd : Below wr.heap.size wr wr.drew := below_drewN (Below.refl _ _) 1
            have KD : Blk wr.drew w1.heap.size 25 [.int .i64 x, .int .i64 y, .int .i64 z] := KW.up bd
            have far : Hid (∀ u : World, Below wr.drew.heap.size wr.drew u → u.cell? ⟨w1.heap.size, 0, none⟩ = some (.int .i64 x) ∧ u.cell? ⟨w1.heap.size, 1, none⟩ = some (.int .i64 y) ∧ u.cell? ⟨w1.heap.size, 2, none⟩ = some (.int .i64 z)) := Lib.hid (fun u h1 => by
              have K := KD.up h1
              exact ⟨by simpa using K.cell 0, by simpa using K.cell 1, by simpa using K.cell 2⟩)
            go_upto_region 16 with fail
            go_region_held3 (fun u => u.cell? ⟨w1.heap.size, 0, none⟩ = some (.int .i64 x) ∧ u.cell? ⟨w1.heap.size, 1, none⟩ = some (.int .i64 y) ∧ u.cell? ⟨w1.heap.size, 2, none⟩ = some (.int .i64 z)) (first | with_reducible exact pd | with_reducible exact f2) (first | (go_at_call 14; go_must (refine (impl_BlowAt x y z (n : Int) (q : Int) ((m : Int) + 1) _).mono ?_; rw [hok, ← HV.out]); rintro e w13 ⟨rfl, hb13⟩; have f2 := far.out _ hb13))
            have hb' := below_go bd hb13
            have hbB := below_go hb hb'
            have KX := KW.up hb'
            have p1 := KX.cell 1
            simp only [List.getElem?_cons_zero, List.getElem?_cons_succ] at p1
            have R5w := HR5.out.up hbB
            obtain ⟨b5, o5, hA5, hbb5, cx0, cx1⟩ := at_strike R5w hd
            subst hA5
            clear pd bd KD far f2 hb13 hb' KX KW p0 p2 E1 E2 E3 E1t E2t E1w E2w hok
            by_cases hk0 : 0 < k
            · have hkI : (0 : Int) < (k : Int) := by omega
              obtain ⟨⟨d2, u2⟩, hd2⟩ := some_of_lt (l := M) (k := k - 1) (by omega)
              have hge := HMON.out (k - 1) d2 d u2 V hd2 (by rw [show k - 1 + 1 = k by omega]; exact hd)
              have hdb2 := HB.out _ (List.mem_of_getElem? hd2)
              dsimp only at hdb2
              obtain ⟨b6, o6, hA6, hbb6, cy0, cy1⟩ := at_strike R5w hd2
              injection hA6 with hA6
              injection hA6 with hA6 hA7
              subst hA6 hA7
              have E4 : IntKind.i64.wrap ((k : Int) - 1) = ((k - 1 : Nat) : Int) := by rw [wrap_id (by omega)]; omega
              have E5 : IntKind.i64.wrap (u2 + y) = u2 + y := wrap_id (by omega)
              have hlt2 : ¬ V < u2 + y := by omega
              clear hd hd2 R5w
              go_wp2
              go_quiet (fail)
              go_wp2
              go_roundw
              case rel => exact ⟨k + 1, by omega, by go_num, below_drewN hbB _⟩
              case measure => simp [intOf]; omega
            · have hkI : ¬ (0 : Int) < (k : Int) := by omega
              obtain rfl : k = 0 := by omega
              clear hd R5w
              go_wp2
              go_quiet (fail)
              go_wp2
              go_roundw
              case rel => exact ⟨1, by omega, by go_num, below_drewN hbB _⟩
              case measure => simp [intOf]; omega
          · have hI : ¬ (k : Int) < (M.length : Int) := by omega
            go_wp2
            go_loopw [17] (fun i wv => ∃ b : Nat, 1 ≤ b ∧ b ≤ n + 1 ∧ i = .int .i64 b ∧ Below w12.heap.size w12 wv) (fun i _ => n + 1 - (intOf i).toNat)
            case atStart => exact ⟨1, Nat.le_refl _, by omega, by go_num, hb⟩
            case round =>
              obtain ⟨b, hb1', hb2', rfl, hbv⟩ := hrel
              rename World => wv
              by_cases hbl : b ≤ n
              · have hbI : (b : Int) ≤ (n : Int) := by omega
                obtain ⟨bo, bl⟩ := HBELL.out b hb1' hbl
                go_wp2_with fail
                refine (impl_OfBell (d := (b : Int)) rfl (HR5.out.up hbv) (by omega)).mono ?_; rw [bo]; rintro e w14 ⟨A14, c14, rfl, _, _, hb14⟩
                clear bo
                go_wp2
                go_roundw
                case rel => exact ⟨b + 1, by omega, by omega, by go_num, below_go hbv hb14⟩
                case measure => simp [intOf]; omega
              · have hbI : ¬ (b : Int) ≤ (n : Int) := by omega
                have HW := below_go HWW.out hbv
                clear hI hbI HBELL HMON HAT HCL HSL HN HR5 HK HB
                go_wp2_with fail
                refine (draw_CutRows (S1.out.over HW)).mono ?_; rintro e w20 ⟨A20, m20, c20, L20, N20, rfl, e20, k20, q20, R20, hb20⟩
                have HW := below_go HW hb20
                clear hb20
                obtain ⟨M20, hM20⟩ : ∃ u, u = cutL L20 (N20 : Int) := ⟨_, rfl⟩
                have GM20 := Lib.hid hM20
                clear hM20
                obtain ⟨b20, hb20⟩ : ∃ u, u = cutOk L20 (N20 : Int) := ⟨_, rfl⟩
                have Gb20 := Lib.hid hb20
                clear hb20
                go_wp2_with fail
                refine (impl_CutRows (N := (N20 : Int)) e20 R20 (by omega) q20).mono ?_; rw [← GM20.out, ← Gb20.out]; rintro e w21 ⟨A21, c21, rfl, o21, z21, hb21⟩
                have R20 := R20.up hb21
                have HW := below_go HW hb21
                have R21 := o21.recs
                clear hb21 o21
                go_wp2_with fail
                refine (spec_CutRows (N := (N20 : Int)) e20 R20 (by omega) q20).mono ?_; rw [← GM20.out, ← Gb20.out]; rintro e w22 ⟨A22, c22, rfl, o22, _, hb22⟩
                have R21 := R21.up hb22
                have HW := below_go HW hb22
                have R22 := o22.recs
                clear hb22 o22 R20 GM20 Gb20
                go_wp2_with fail
                refine (draw_OfBell (S1.out.over HW)).mono ?_; rintro e w23 ⟨A23, m23, c23, L23, s23, rfl, e23, k23, R23, hb23⟩
                have R21 := R21.up hb23
                have R22 := R22.up hb23
                have HW := below_go HW hb23
                clear hb23
                obtain ⟨M23, hM23⟩ : ∃ u, u = bellR L23 s23 := ⟨_, rfl⟩
                have GM23 := Lib.hid hM23
                clear hM23
                obtain ⟨b23, hb23⟩ : ∃ u, u = bellOk L23 s23 := ⟨_, rfl⟩
                have Gb23 := Lib.hid hb23
                clear hb23
                go_wp2_with fail
                refine (impl_OfBell (d := s23) e23 R23 (by omega)).mono ?_; rw [← GM23.out, ← Gb23.out]; rintro e w24 ⟨A24, c24, rfl, o24, z24, hb24⟩
                have R21 := R21.up hb24
                have R22 := R22.up hb24
                have R23 := R23.up hb24
                have HW := below_go HW hb24
                have R24 := o24.recs
                clear hb24 o24
                go_wp2_with fail
                refine (spec_OfBell (d := s23) e23 R23 (by omega)).mono ?_; rw [← GM23.out, ← Gb23.out]; rintro e w25 ⟨A25, c25, rfl, o25, _, hb25⟩
                have R21 := R21.up hb25
                have R22 := R22.up hb25
                have R24 := R24.up hb25
                have HW := below_go HW hb25
                have R25 := o25.recs
                clear hb25 o25 R23 GM23 Gb23
                go_wp2_with fail
                refine (draw_BlowAt (S1.out.over HW)).mono ?_; rintro e w26 ⟨x, y, z, N26, r26, p26, rfl, hb26⟩
                have R21 := R21.up hb26
                have R22 := R22.up hb26
                have R24 := R24.up hb26
                have R25 := R25.up hb26
                have HW := below_go HW hb26
                clear hb26
                have hbb : Below w26.heap.size w26 (w26.alloc (.cells #[.int .i64 x, .int .i64 y, .int .i64 z] 25)) := by (repeat' (first | (with_reducible exact Below.refl _ _) | (with_reducible assumption) | (with_reducible refine below_drewN ?_ _) | (with_reducible refine Below.drew ?_) | (with_reducible refine below_alloc ?_ _) | (with_reducible refine Below.alloc ?_ ?_ _) | (with_reducible refine Below.setCell ?_ ?_ _) | (with_reducible refine below_go ?_ (by with_reducible assumption)) | (with_reducible refine below_then (by with_reducible assumption) ?_ ?_) | go_size))
                have K26 := Blk.at_ w26 25 [.int .i64 x, .int .i64 y, .int .i64 z] (b := w26.heap.size) rfl
                go_upto_region 33 with fail
                obtain ⟨v26, hv⟩ : ∃ u, u = w26.alloc (.cells #[.int .i64 x, .int .i64 y, .int .i64 z] 25) := ⟨_, rfl⟩
                rw [← hv] at hbb K26 ⊢
                clear hv
                have R21 := R21.up hbb
                have R22 := R22.up hbb
                have R24 := R24.up hbb
                have R25 := R25.up hbb
                have HW := below_go HW hbb
                clear hbb
                have p0 := K26.cell 0; have p1 := K26.cell 1; have p2 := K26.cell 2
                simp only [List.getElem?_cons_zero, List.getElem?_cons_succ] at p0 p1 p2
                obtain ⟨x27, hx27⟩ : ∃ u, u = blowV x y z N26 r26 p26 := ⟨_, rfl⟩
                have Gx27 := Lib.hid hx27
                clear hx27
                obtain ⟨b27, hb27⟩ : ∃ u, u = okBlow x y z N26 r26 p26 := ⟨_, rfl⟩
                have Gb27 := Lib.hid hb27
                clear hb27
                go_wp2_with fail
                refine (impl_BlowAt x y z N26 r26 p26 _).mono ?_; rw [← Gx27.out, ← Gb27.out]; rintro e w27 ⟨rfl, hb27⟩
                have R21 := R21.up hb27
                have R22 := R22.up hb27
                have R24 := R24.up hb27
                have R25 := R25.up hb27
                have K26 := K26.up hb27
                have HW := below_go HW hb27
                clear hb27
                have p0 := K26.cell 0; have p1 := K26.cell 1; have p2 := K26.cell 2
                simp only [List.getElem?_cons_zero, List.getElem?_cons_succ] at p0 p1 p2
                go_wp2_with fail
                refine (spec_BlowAt x y z N26 r26 p26 _).mono ?_; rw [← Gx27.out, ← Gb27.out]; rintro e w28 ⟨rfl, hb28⟩
                have R21 := R21.up hb28
                have R22 := R22.up hb28
                have R24 := R24.up hb28
                have R25 := R25.up hb28
                have K26 := K26.up hb28
                have HW := below_go HW hb28
                clear hb28 K26 p0 p1 p2 Gx27 Gb27
                go_wp2_with fail
                refine (laws_sameTextsB rfl R21 R22 z21).mono ?_; rintro e w33 ⟨rfl, hb33⟩
                have R21 := R21.up hb33
                have R22 := R22.up hb33
                have R24 := R24.up hb33
                have R25 := R25.up hb33
                have HW := below_go HW hb33
                clear hb33
                go_wp2_with fail
                refine (laws_sameIntsB rfl R24 R25 z24).mono ?_; rintro e w34 ⟨rfl, hb34⟩
                go_wp2
                go_ret
                exact ⟨rfl, below_go HW hb34⟩
      · have hnI : ¬ (0 : Int) < (L1.length : Int) := by omega
        clear R1 R5 K1 p0 p1 p2 GM hA
        go_wp2_with fail
        refine (draw_CutRows (S1.out.over HW)).mono ?_; rintro e w20 ⟨A20, m20, c20, L20, N20, rfl, e20, k20, q20, R20, hb20⟩
        have HW := below_go HW hb20
        clear hb20
        obtain ⟨M20, hM20⟩ : ∃ u, u = cutL L20 (N20 : Int) := ⟨_, rfl⟩
        have GM20 := Lib.hid hM20
        clear hM20
        obtain ⟨b20, hb20⟩ : ∃ u, u = cutOk L20 (N20 : Int) := ⟨_, rfl⟩
        have Gb20 := Lib.hid hb20
        clear hb20
        go_wp2_with fail
        refine (impl_CutRows (N := (N20 : Int)) e20 R20 (by omega) q20).mono ?_; rw [← GM20.out, ← Gb20.out]; rintro e w21 ⟨A21, c21, rfl, o21, z21, hb21⟩
        have R20 := R20.up hb21
        have HW := below_go HW hb21
        have R21 := o21.recs
        clear hb21 o21
        go_wp2_with fail
        refine (spec_CutRows (N := (N20 : Int)) e20 R20 (by omega) q20).mono ?_; rw [← GM20.out, ← Gb20.out]; rintro e w22 ⟨A22, c22, rfl, o22, _, hb22⟩
        have R21 := R21.up hb22
        have HW := below_go HW hb22
        have R22 := o22.recs
        clear hb22 o22 R20 GM20 Gb20
        go_wp2_with fail
        refine (draw_OfBell (S1.out.over HW)).mono ?_; rintro e w23 ⟨A23, m23, c23, L23, s23, rfl, e23, k23, R23, hb23⟩
        have R21 := R21.up hb23
        have R22 := R22.up hb23
        have HW := below_go HW hb23
        clear hb23
        obtain ⟨M23, hM23⟩ : ∃ u, u = bellR L23 s23 := ⟨_, rfl⟩
        have GM23 := Lib.hid hM23
        clear hM23
        obtain ⟨b23, hb23⟩ : ∃ u, u = bellOk L23 s23 := ⟨_, rfl⟩
        have Gb23 := Lib.hid hb23
        clear hb23
        go_wp2_with fail
        refine (impl_OfBell (d := s23) e23 R23 (by omega)).mono ?_; rw [← GM23.out, ← Gb23.out]; rintro e w24 ⟨A24, c24, rfl, o24, z24, hb24⟩
        have R21 := R21.up hb24
        have R22 := R22.up hb24
        have R23 := R23.up hb24
        have HW := below_go HW hb24
        have R24 := o24.recs
        clear hb24 o24
        go_wp2_with fail
        refine (spec_OfBell (d := s23) e23 R23 (by omega)).mono ?_; rw [← GM23.out, ← Gb23.out]; rintro e w25 ⟨A25, c25, rfl, o25, _, hb25⟩
        have R21 := R21.up hb25
        have R22 := R22.up hb25
        have R24 := R24.up hb25
        have HW := below_go HW hb25
        have R25 := o25.recs
        clear hb25 o25 R23 GM23 Gb23
        go_wp2_with fail
        refine (draw_BlowAt (S1.out.over HW)).mono ?_; rintro e w26 ⟨x, y, z, N26, r26, p26, rfl, hb26⟩
        have R21 := R21.up hb26
        have R22 := R22.up hb26
        have R24 := R24.up hb26
        have R25 := R25.up hb26
        have HW := below_go HW hb26
        clear hb26
        have hbb : Below w26.heap.size w26 (w26.alloc (.cells #[.int .i64 x, .int .i64 y, .int .i64 z] 25)) := by (repeat' (first | (with_reducible exact Below.refl _ _) | (with_reducible assumption) | (with_reducible refine below_drewN ?_ _) | (with_reducible refine Below.drew ?_) | (with_reducible refine below_alloc ?_ _) | (with_reducible refine Below.alloc ?_ ?_ _) | (with_reducible refine Below.setCell ?_ ?_ _) | (with_reducible refine below_go ?_ (by with_reducible assumption)) | (with_reducible refine below_then (by with_reducible assumption) ?_ ?_) | go_size))
        have K26 := Blk.at_ w26 25 [.int .i64 x, .int .i64 y, .int .i64 z] (b := w26.heap.size) rfl
        go_upto_region 33 with fail
        obtain ⟨v26, hv⟩ : ∃ u, u = w26.alloc (.cells #[.int .i64 x, .int .i64 y, .int .i64 z] 25) := ⟨_, rfl⟩
        rw [← hv] at hbb K26 ⊢
        clear hv
        have R21 := R21.up hbb
        have R22 := R22.up hbb
        have R24 := R24.up hbb
        have R25 := R25.up hbb
        have HW := below_go HW hbb
        clear hbb
        have p0 := K26.cell 0; have p1 := K26.cell 1; have p2 := K26.cell 2
        simp only [List.getElem?_cons_zero, List.getElem?_cons_succ] at p0 p1 p2
        obtain ⟨x27, hx27⟩ : ∃ u, u = blowV x y z N26 r26 p26 := ⟨_, rfl⟩
        have Gx27 := Lib.hid hx27
        clear hx27
        obtain ⟨b27, hb27⟩ : ∃ u, u = okBlow x y z N26 r26 p26 := ⟨_, rfl⟩
        have Gb27 := Lib.hid hb27
        clear hb27
        go_wp2_with fail
        refine (impl_BlowAt x y z N26 r26 p26 _).mono ?_; rw [← Gx27.out, ← Gb27.out]; rintro e w27 ⟨rfl, hb27⟩
        have R21 := R21.up hb27
        have R22 := R22.up hb27
        have R24 := R24.up hb27
        have R25 := R25.up hb27
        have K26 := K26.up hb27
        have HW := below_go HW hb27
        clear hb27
        have p0 := K26.cell 0; have p1 := K26.cell 1; have p2 := K26.cell 2
        simp only [List.getElem?_cons_zero, List.getElem?_cons_succ] at p0 p1 p2
        go_wp2_with fail
        refine (spec_BlowAt x y z N26 r26 p26 _).mono ?_; rw [← Gx27.out, ← Gb27.out]; rintro e w28 ⟨rfl, hb28⟩
        have R21 := R21.up hb28
        have R22 := R22.up hb28
        have R24 := R24.up hb28
        have R25 := R25.up hb28
        have K26 := K26.up hb28
        have HW := below_go HW hb28
        clear hb28 K26 p0 p1 p2 Gx27 Gb27
        go_wp2_with fail
        refine (laws_sameTextsB rfl R21 R22 z21).mono ?_; rintro e w33 ⟨rfl, hb33⟩
        have R21 := R21.up hb33
        have R22 := R22.up hb33
        have R24 := R24.up hb33
        have R25 := R25.up hb33
        have HW := below_go HW hb33
        clear hb33
        go_wp2_with fail
        refine (laws_sameIntsB rfl R24 R25 z24).mono ?_; rintro e w34 ⟨rfl, hb34⟩
        go_wp2
        go_ret
        exact ⟨rfl, below_go HW hb34⟩
  · go_in
    go_wp2_with fail
    refine (laws_big3 _ _ _ _ _ _ _ (by omega) (by omega)).mono ?_; rintro e w' ⟨rfl, rfl⟩
    go_wp2
    go_ret
    exact ⟨rfl, Below.refl _ _⟩
end Go.Proofs.YtpccbmndgdiloaaDoor
