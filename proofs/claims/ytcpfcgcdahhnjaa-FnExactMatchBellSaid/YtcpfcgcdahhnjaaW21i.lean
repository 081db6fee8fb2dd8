/- The walks through ideal strikes, both sides. -/
import Derived.Test.YtcpfcgcdahhnjaaW06
import Derived.Test.YtcpfcgcdahhnjaaP21i
import Derived.Test.YtcpfcgcdahhnjaaW23e
import Derived.Test.YtcpfcgcdahhnjaaW21f
namespace Go.Proofs.Ytcpfcgcdahhnjaa
set_option linter.unusedVariables false
set_option linter.unusedSimpArgs false
open Go.ChangeShapes Go.WideShapes Go.ChangeAt Go.RowKit Go.Deep
theorem spec_l1At {b : ByteArray} {k : Nat} {w : World} (hk : k < b.size) (hz : b.size ≤ 16777216) (hlo : 48 ≤ PlainAid.bt b k) :
    Calls Try.prog 140 #[.string b, .int .i64 ((k : Int) + 1)] w fun e w' => e = .returned (.int .i64 (PlainAid.bt b k - 48)) ∧ w = w' := by
  have hbb := PlainAid.get_bt b
  have hn1 := PlainAid.bt_le b k
  go_in
  go_wp2
  go_ret
  exact ⟨rfl, rfl⟩
set_option maxHeartbeats 1000000 in
set_option maxRecDepth 100000 in
theorem impl_IdealStrikes {A : Option Addr} {n c : Nat} {x y z : Int} {l : List ByteArray} {w : World} (hn : l.length = n) (h : Strs w A l) (hz : n ≤ 1048576) (hs : ∀ s ∈ l, s.size ≤ 16777216) :
    Calls Try.prog 47 #[.agg #[.int .i64 x, .int .i64 y, .int .i64 z], .slice A n c] w fun e w' => ∃ A' c', e = .returned (.tuple #[.slice A' (idlR x y z l).length c', .bool (idlOk x y z l)]) ∧
      Owned strikeE 2 116 w' w.heap.size A' (idlR x y z l).length c' (idlR x y z l) ∧ (idlR x y z l).length ≤ 16777216 ∧ Below w.heap.size w w' := by
  subst hn
  have E : Hid (idlOk x y z l = (goodBeatB x y z && (goodRows l && goodStrikes (idl x y z l l.length)))) := rfl
  have b0 : Below w.heap.size w (w.alloc (.cells #[.int .i64 x, .int .i64 y, .int .i64 z] 31)) := by (repeat' (first | (with_reducible exact Below.refl _ _) | (with_reducible assumption) | (with_reducible refine below_drewN ?_ _) | (with_reducible refine Below.drew ?_) | (with_reducible refine below_alloc ?_ _) | (with_reducible refine Below.alloc ?_ ?_ _) | (with_reducible refine Below.setCell ?_ ?_ _) | (with_reducible refine below_go ?_ (by with_reducible assumption)) | (with_reducible refine below_then (by with_reducible assumption) ?_ ?_) | go_size))
  have K0 := Blk.at_ w 31 [.int .i64 x, .int .i64 y, .int .i64 z] (b := w.heap.size) rfl
  rcases h1 : goodBeatB x y z
  · have e0 : idlOk x y z l = false := by rw [E.out, h1]; rfl
    rw [idlR_f e0, e0]
    clear e0
    go_in
    go_wp2_with (first | (go_at_call 75; refine (impl_GoodBeat _ _ _ _).mono ?_; rintro e w1 ⟨rfl, hb1⟩; rw [h1]))
    go_ret2
    exact ⟨none, 0, rfl, Owned.nil strikeE_len _ _ _, by decide, below_go b0 hb1⟩
  rcases h2 : goodRows l
  · have e0 : idlOk x y z l = false := by rw [E.out, h1, h2]; rfl
    rw [idlR_f e0, e0]
    clear e0
    go_in
    go_wp2_with (first | (go_at_call 75; refine (impl_GoodBeat _ _ _ _).mono ?_; rintro e w1 ⟨rfl, hb1⟩; rw [h1]) | (go_at_call 98; refine (impl_GoodRows rfl ((h.up b0).up hb1) (by omega) hs).mono ?_; rintro e w' ⟨rfl, rfl⟩; rw [h2]))
    go_ret2
    exact ⟨none, 0, rfl, Owned.nil strikeE_len _ _ _, by decide, below_go b0 hb1⟩
  obtain ⟨hx, hy, hzz⟩ := goodBeat_t h1
  have hl8 := goodRows_len h2
  have HGR := Lib.hid (goodRows_mem h2)
  have HIL := Lib.hid (fun k hk => idl_len (x := x) (y := y) (z := z) (fun s hs' => (goodRow_n (goodRows_mem h2 s hs')).2) k hk)
  go_in
  go_wp2_with (first | (go_at_call 75; refine (impl_GoodBeat _ _ _ _).mono ?_; rintro e w2 ⟨rfl, hb1⟩; rw [h1]) | (go_at_call 98; refine (impl_GoodRows rfl ((h.up b0).up hb1) (by omega) hs).mono ?_; rintro e w' ⟨rfl, rfl⟩; rw [h2]))
  have hbA : Below w.heap.size w w2 := below_go b0 hb1
  have hsA : w.heap.size < w2.heap.size := by have := hb1.size; simp at this; omega
  have HK := Lib.hid (K0.up hb1)
  clear K0 b0 hb1 hs
  go_loopw [6, 21] (fun v i wr => ∃ (k : Nat) (A' : Option Addr) (N c' : Nat), k ≤ l.length ∧ i = .int .i64 k ∧ v = .slice A' N c' ∧ Owned strikeE 2 116 wr w2.heap.size A' N c' (idl x y z l k) ∧ Below w2.heap.size w2 wr) (fun _ i _ => l.length - (intOf i).toNat)
  case atStart => exact ⟨0, _, _, _, Nat.zero_le _, rfl, rfl, Owned.empty strikeE_len _ _ (Nat.le_refl _), by (repeat' (first | (with_reducible exact Below.refl _ _) | (with_reducible assumption) | (with_reducible refine below_drewN ?_ _) | (with_reducible refine Below.drew ?_) | (with_reducible refine below_alloc ?_ _) | (with_reducible refine Below.alloc ?_ ?_ _) | (with_reducible refine Below.setCell ?_ ?_ _) | (with_reducible refine below_go ?_ (by with_reducible assumption)) | (with_reducible refine below_then (by with_reducible assumption) ?_ ?_) | go_size))⟩
  case round =>
    obtain ⟨k, A', N, c', hk, rfl, rfl, ho, hb⟩ := hrel
    rename World => wo
    have hbw := hbA.trans (hb.mono (by omega))
    have hIL := HIL.out k hk
    have hoN := ho.len
    rw [hoN] at hIL
    by_cases hlt : k < l.length
    · obtain ⟨b1, o1, r, rfl, hbb1, hr, hcr⟩ := (h.below hbw (Nat.le_refl _)).at_str hlt
      have hgr := HGR.out r (List.mem_of_getElem? hr)
      have hr8 := goodRow_n hgr
      have IS := Lib.hid (idl_succ (x := x) (y := y) (z := z) hr)
      have HO := Lib.hid ho
      have hrz := hr8.2
      have hbt := PlainAid.get_bt r
      clear hr ho
      go_wp2
      go_loopw [6, 28] (fun v i wr => ∃ (q : Nat) (A' : Option Addr) (N' c' : Nat), q ≤ r.size ∧ i = .int .i64 (q : Int) ∧ v = .slice A' N' c' ∧ N' ≤ N + q ∧ Owned strikeE 2 116 wr w2.heap.size A' N' c' (idl x y z l k ++ rowStr x y z r k q) ∧ Below w2.heap.size w2 wr) (fun _ i _ => r.size - (intOf i).toNat)
      case atStart => exact ⟨0, A', N, c', Nat.zero_le _, rfl, rfl, Nat.le_refl _, by simpa [rowStr] using HO.out, hb⟩
      case round =>
        obtain ⟨q, A2, N2, c2, hq, rfl, rfl, hN2, ho2, hb2⟩ := hrel
        rename World => wi
        by_cases hqt : q < r.size
        · have hdq := goodRow_dig hgr hqt
          have hbq : PlainAid.bt r q = dg r q + 48 := by simp [dg]
          have RS := Lib.hid (rowStr_succ x y z r k q)
          have HO2 := Lib.hid ho2
          have hsz2 := hb2.size
          have KB := HK.out.below hb2 hsA
          have k0 := KB.cell 0; have k1 := KB.cell 1; have k2 := KB.cell 2
          simp only [List.getElem?_cons_zero, List.getElem?_cons_succ] at k0 k1 k2
          have bb := blowAtZ_bd (r := (k : Int)) (p := (q : Int) + 1) hx hy hzz (n := (r.size : Int)) (by omega) (by omega) (by omega)
          obtain ⟨bz, hbz⟩ : ∃ u, u = blowAtZ x y z r.size k ((q : Int) + 1) := ⟨_, rfl⟩
          have HBZ := Lib.hid hbz
          rw [← hbz] at bb
          clear hbz ho2 KB
          have carry : Hid (∀ u : World, Below wi.heap.size wi u → u.cell? ⟨w.heap.size, 0, none⟩ = some (.int .i64 x) ∧ u.cell? ⟨w.heap.size, 1, none⟩ = some (.int .i64 y) ∧ u.cell? ⟨w.heap.size, 2, none⟩ = some (.int .i64 z)) := Lib.hid (fun u hu =>
            have q : ∀ o : Nat, u.cell? ⟨w.heap.size, o, none⟩ = wi.cell? ⟨w.heap.size, o, none⟩ := fun o => hu.cell (p := ⟨w.heap.size, o, none⟩) (by show w.heap.size < wi.heap.size; omega)
            ⟨(q 0).trans k0, (q 1).trans k1, (q 2).trans k2⟩)
          have far : Hid (∀ v u : World, Below wi.heap.size wi v → v.grownBy u (Value.slice A2 N2 c2).ownBlock → u.cell? ⟨w.heap.size, 0, none⟩ = some (.int .i64 x) ∧ u.cell? ⟨w.heap.size, 1, none⟩ = some (.int .i64 y) ∧ u.cell? ⟨w.heap.size, 2, none⟩ = some (.int .i64 z)) := Lib.hid (fun v u hv hg => by
            have hvs := hv.size
            have f1 : ∀ o : Nat, u.cell? ⟨w.heap.size, o, none⟩ = v.cell? ⟨w.heap.size, o, none⟩ := fun o => hg.cell_far _ (by show w.heap.size < v.heap.size; omega) (fun e => by have := HO2.out.blk e.symm; dsimp only at this; omega)
            rw [f1, f1, f1]
            exact carry.out v hv)
          go_wp2
          have hqI : (q : Int) < (r.size : Int) := by omega
          have hw1 := wrap_bt r q
          have gu : IntKind.u8.wrap (dg r q) = dg r q := IntWalk.u8_in _ (by omega)
          have gi : IntKind.i64.wrap (dg r q) = dg r q := wrap_id (by omega)
          have gq : IntKind.i64.wrap ((q : Int) + 1) = (q : Int) + 1 := wrap_id (by omega)
          have gs : dg r q + 48 - 48 = dg r q := by omega
          go_region_held3 (fun u => u.cell? ⟨w.heap.size, 0, none⟩ = some (.int .i64 x) ∧ u.cell? ⟨w.heap.size, 1, none⟩ = some (.int .i64 y) ∧ u.cell? ⟨w.heap.size, 2, none⟩ = some (.int .i64 z)) (first | exact far.out _ _ (hB2.alloc hB2.size _) hg3 | exact carry.out _ (hB2.alloc hB2.size _) | exact carry.out _ hB2 | exact carry.out _ (by (repeat' (first | (with_reducible exact Below.refl _ _) | (with_reducible assumption) | (with_reducible refine below_drewN ?_ _) | (with_reducible refine Below.drew ?_) | (with_reducible refine below_alloc ?_ _) | (with_reducible refine Below.alloc ?_ ?_ _) | (with_reducible refine Below.setCell ?_ ?_ _) | (with_reducible refine below_go ?_ (by with_reducible assumption)) | (with_reducible refine below_then (by with_reducible assumption) ?_ ?_) | go_size)))) (first | (go_at_call 76; refine (impl_blowAt _ _ _ _ _ _ _ hx hy hzz (by omega) (by omega) (by omega)).mono ?_; rintro e w3 ⟨rfl, hbd⟩; rw [← HBZ.out]; have hB2 := below_of_drew hbd) | ((refine step_append_rec Try.elStrike (by rfl) _ _ (by rfl) (by rfl) ((HO2.out.up hB2).alloc _) (dg r q, bz) (by rfl) (Box.at_ _ [.int .i64 (dg r q), .int .i64 bz] _ (by rfl)) (strikeE_one _) (by omega) (by decide) (by have := hB2.size; simp; omega) ?_; intro A3 c3 w4 ho3 hg3 hb3)))
          all_goals
            have hfin := (hb2.trans ((hB2.alloc hB2.size _).mono (by omega))).trans hb3
            clear far carry k0 k1 k2
            go_wp2
            go_roundw
            case rel =>
              refine ⟨q + 1, A3, N2 + 1, c3, by omega, by go_num, by go_num, by omega, ?_, hfin⟩
              rw [RS.out, ← List.append_assoc, ← HBZ.out]; exact ho3
            case measure => simp [intOf]; omega
        · obtain rfl : q = r.size := by omega
          go_wp2
          go_roundw
          case rel => exact ⟨k + 1, A2, N2, c2, by omega, by go_num, rfl, by rw [IS.out]; exact ho2, hb2⟩
          case measure => simp [intOf]; omega
    · obtain rfl : k = l.length := by omega
      rcases h3 : goodStrikes (idl x y z l l.length)
      · have e0 := Lib.hid (show idlOk x y z l = false by rw [E.out, h1, h2, h3]; rfl)
        go_wp2_with (first | (go_at_call 99; refine (impl_GoodStrikes hoN ho.recs (by omega)).mono ?_; rintro e w3 ⟨rfl, hb3⟩; rw [h3]))
        go_ret2
        rw [idlR_f e0.out, e0.out]
        exact ⟨none, 0, rfl, Owned.nil strikeE_len _ _ _, by decide, below_go hbw hb3⟩
      · have e0 := Lib.hid (show idlOk x y z l = true by rw [E.out, h1, h2, h3]; rfl)
        go_wp2_with (first | (go_at_call 99; refine (impl_GoodStrikes hoN ho.recs (by omega)).mono ?_; rintro e w3 ⟨rfl, hb3⟩; rw [h3]))
        go_ret2
        rw [idlR_t e0.out, e0.out, hoN]
        exact ⟨_, _, rfl, (ho.up hb3).base_le (by omega), by omega, below_go hbw hb3⟩
set_option maxHeartbeats 1000000 in
set_option maxRecDepth 100000 in
theorem spec_l21Ideal {A : Option Addr} {n c : Nat} {x y z : Int} {l : List ByteArray} {w : World} (hn : l.length = n) (h : Strs w A l) (h1 : goodBeatB x y z = true) (h2 : goodRows l = true) :
    Calls Try.prog 97 #[.agg #[.int .i64 x, .int .i64 y, .int .i64 z], .slice A n c] w fun e w' => ∃ A' c', e = .returned (.slice A' (idl x y z l l.length).length c') ∧
      Owned strikeE 2 116 w' w.heap.size A' (idl x y z l l.length).length c' (idl x y z l l.length) ∧ (idl x y z l l.length).length ≤ 6400 ∧ Below w.heap.size w w' := by
  subst hn
  obtain ⟨hx, hy, hzz⟩ := goodBeat_t h1
  have hl8 := goodRows_len h2
  have HGR := Lib.hid (goodRows_mem h2)
  have HIL := Lib.hid (fun k hk => idl_len (x := x) (y := y) (z := z) (fun s hs' => (goodRow_n (goodRows_mem h2 s hs')).2) k hk)
  have hbA : Below w.heap.size w (w.alloc (.cells #[.int .i64 x, .int .i64 y, .int .i64 z] 31)) := by (repeat' (first | (with_reducible exact Below.refl _ _) | (with_reducible assumption) | (with_reducible refine below_drewN ?_ _) | (with_reducible refine Below.drew ?_) | (with_reducible refine below_alloc ?_ _) | (with_reducible refine Below.alloc ?_ ?_ _) | (with_reducible refine Below.setCell ?_ ?_ _) | (with_reducible refine below_go ?_ (by with_reducible assumption)) | (with_reducible refine below_then (by with_reducible assumption) ?_ ?_) | go_size))
  have HK := Lib.hid (Blk.at_ w 31 [.int .i64 x, .int .i64 y, .int .i64 z] (b := w.heap.size) rfl)
  have hsA : w.heap.size < (w.alloc (.cells #[.int .i64 x, .int .i64 y, .int .i64 z] 31)).heap.size := by simp
  go_in
  go_wp2
  obtain ⟨w2, hw2⟩ : ∃ u, u = w.alloc (.cells #[.int .i64 x, .int .i64 y, .int .i64 z] 31) := ⟨_, rfl⟩
  rw [← hw2] at hbA HK hsA ⊢
  clear hw2
  go_loopw [5, 11] (fun v i wr => ∃ (k : Nat) (A' : Option Addr) (N c' : Nat), k ≤ l.length ∧ i = .int .i64 k ∧ v = .slice A' N c' ∧ Owned strikeE 2 116 wr w2.heap.size A' N c' (idl x y z l k) ∧ Below w2.heap.size w2 wr) (fun _ i _ => l.length - (intOf i).toNat)
  case atStart => exact ⟨0, _, _, _, Nat.zero_le _, rfl, rfl, Owned.nil strikeE_len _ _ _, by (repeat' (first | (with_reducible exact Below.refl _ _) | (with_reducible assumption) | (with_reducible refine below_drewN ?_ _) | (with_reducible refine Below.drew ?_) | (with_reducible refine below_alloc ?_ _) | (with_reducible refine Below.alloc ?_ ?_ _) | (with_reducible refine Below.setCell ?_ ?_ _) | (with_reducible refine below_go ?_ (by with_reducible assumption)) | (with_reducible refine below_then (by with_reducible assumption) ?_ ?_) | go_size))⟩
  case round =>
    obtain ⟨k, A', N, c', hk, rfl, rfl, ho, hb⟩ := hrel
    rename World => wo
    have hbw := hbA.trans (hb.mono (by omega))
    have hIL := HIL.out k hk
    have hoN := ho.len
    rw [hoN] at hIL
    by_cases hlt : k < l.length
    · obtain ⟨b1, o1, r, rfl, hbb1, hr, hcr⟩ := (h.below hbw (Nat.le_refl _)).at_str hlt
      have hgr := HGR.out r (List.mem_of_getElem? hr)
      have hr8 := goodRow_n hgr
      have IS := Lib.hid (idl_succ (x := x) (y := y) (z := z) hr)
      have HO := Lib.hid ho
      have hrz := hr8.2
      have hbt := PlainAid.get_bt r
      clear hr ho
      go_wp2
      go_loopw [5, 8] (fun v i wr => ∃ (q : Nat) (A' : Option Addr) (N' c' : Nat), q ≤ r.size ∧ i = .int .i64 ((q : Int) + 1) ∧ v = .slice A' N' c' ∧ N' ≤ N + q ∧ Owned strikeE 2 116 wr w2.heap.size A' N' c' (idl x y z l k ++ rowStr x y z r k q) ∧ Below w2.heap.size w2 wr) (fun _ i _ => (r.size + 1) - (intOf i).toNat)
      case atStart => exact ⟨0, A', N, c', Nat.zero_le _, by go_num, rfl, Nat.le_refl _, by simpa [rowStr] using HO.out, hb⟩
      case round =>
        obtain ⟨q, A2, N2, c2, hq, rfl, rfl, hN2, ho2, hb2⟩ := hrel
        rename World => wi
        by_cases hqt : q < r.size
        · have hdq := goodRow_dig hgr hqt
          have hbq : PlainAid.bt r q = dg r q + 48 := by simp [dg]
          have RS := Lib.hid (rowStr_succ x y z r k q)
          have HO2 := Lib.hid ho2
          have hsz2 := hb2.size
          have KB := HK.out.below hb2 hsA
          have k0 := KB.cell 0; have k1 := KB.cell 1; have k2 := KB.cell 2
          simp only [List.getElem?_cons_zero, List.getElem?_cons_succ] at k0 k1 k2
          have bb := blowAtZ_bd (r := (k : Int)) (p := (q : Int) + 1) hx hy hzz (n := (r.size : Int)) (by omega) (by omega) (by omega)
          obtain ⟨bz, hbz⟩ : ∃ u, u = blowAtZ x y z r.size k ((q : Int) + 1) := ⟨_, rfl⟩
          have HBZ := Lib.hid hbz
          rw [← hbz] at bb
          clear hbz ho2 KB
          have carry : Hid (∀ u : World, Below wi.heap.size wi u → u.cell? ⟨w.heap.size, 0, none⟩ = some (.int .i64 x) ∧ u.cell? ⟨w.heap.size, 1, none⟩ = some (.int .i64 y) ∧ u.cell? ⟨w.heap.size, 2, none⟩ = some (.int .i64 z)) := Lib.hid (fun u hu =>
            have q : ∀ o : Nat, u.cell? ⟨w.heap.size, o, none⟩ = wi.cell? ⟨w.heap.size, o, none⟩ := fun o => hu.cell (p := ⟨w.heap.size, o, none⟩) (by show w.heap.size < wi.heap.size; omega)
            ⟨(q 0).trans k0, (q 1).trans k1, (q 2).trans k2⟩)
          have far : Hid (∀ v u : World, Below wi.heap.size wi v → v.grownBy u (Value.slice A2 N2 c2).ownBlock → u.cell? ⟨w.heap.size, 0, none⟩ = some (.int .i64 x) ∧ u.cell? ⟨w.heap.size, 1, none⟩ = some (.int .i64 y) ∧ u.cell? ⟨w.heap.size, 2, none⟩ = some (.int .i64 z)) := Lib.hid (fun v u hv hg => by
            have hvs := hv.size
            have f1 : ∀ o : Nat, u.cell? ⟨w.heap.size, o, none⟩ = v.cell? ⟨w.heap.size, o, none⟩ := fun o => hg.cell_far _ (by show w.heap.size < v.heap.size; omega) (fun e => by have := HO2.out.blk e.symm; dsimp only at this; omega)
            rw [f1, f1, f1]
            exact carry.out v hv)
          go_wp2
          have hqI : (q : Int) < (r.size : Int) := by omega
          have hw1 := wrap_bt r q
          have gu : IntKind.u8.wrap (dg r q) = dg r q := IntWalk.u8_in _ (by omega)
          have gi : IntKind.i64.wrap (dg r q) = dg r q := wrap_id (by omega)
          have gq : IntKind.i64.wrap ((q : Int) + 1) = (q : Int) + 1 := wrap_id (by omega)
          have gs : dg r q + 48 - 48 = dg r q := by omega
          go_region_held3 (fun u => u.cell? ⟨w.heap.size, 0, none⟩ = some (.int .i64 x) ∧ u.cell? ⟨w.heap.size, 1, none⟩ = some (.int .i64 y) ∧ u.cell? ⟨w.heap.size, 2, none⟩ = some (.int .i64 z)) (first | exact far.out _ _ (hB2.alloc hB2.size _) hg3 | exact carry.out _ (hB2.alloc hB2.size _) | exact carry.out _ hB2 | exact carry.out _ (by (repeat' (first | (with_reducible exact Below.refl _ _) | (with_reducible assumption) | (with_reducible refine below_drewN ?_ _) | (with_reducible refine Below.drew ?_) | (with_reducible refine below_alloc ?_ _) | (with_reducible refine Below.alloc ?_ ?_ _) | (with_reducible refine Below.setCell ?_ ?_ _) | (with_reducible refine below_go ?_ (by with_reducible assumption)) | (with_reducible refine below_then (by with_reducible assumption) ?_ ?_) | go_size)))) (first | (go_at_call 140; refine (spec_l1At hqt (by omega) (by omega)).mono ?_; rw [hbq, gs]; rintro e w' ⟨rfl, rfl⟩) | (go_at_call 73; refine (spec_l21Blow _ _ _ _ _ _ _ hx hy hzz (by omega) (by omega) (by omega)).mono ?_; rintro e w3 ⟨rfl, hbd⟩; rw [← HBZ.out]; have hB2 := below_of_drew hbd) | ((refine step_append_rec Try.elStrike (by rfl) _ _ (by rfl) (by rfl) ((HO2.out.up hB2).alloc _) (dg r q, bz) (by rfl) (Box.at_ _ [.int .i64 (dg r q), .int .i64 bz] _ (by rfl)) (strikeE_one _) (by omega) (by decide) (by have := hB2.size; simp; omega) ?_; intro A3 c3 w4 ho3 hg3 hb3)))
          all_goals
            have hfin := (hb2.trans ((hB2.alloc hB2.size _).mono (by omega))).trans hb3
            clear far carry k0 k1 k2
            go_wp2
            go_roundw
            case rel =>
              refine ⟨q + 1, A3, N2 + 1, c3, by omega, by go_num, by go_num, by omega, ?_, hfin⟩
              rw [RS.out, ← List.append_assoc, ← HBZ.out]; exact ho3
            case measure => simp [intOf]; omega
        · obtain rfl : q = r.size := by omega
          go_wp2
          go_roundw
          case rel => exact ⟨k + 1, A2, N2, c2, by omega, by go_num, rfl, by rw [IS.out]; exact ho2, hb2⟩
          case measure => simp [intOf]; omega
    · obtain rfl : k = l.length := by omega
      obtain rfl := hoN
      go_wp2
      go_ret
      exact ⟨_, _, rfl, ho.base_le (by omega), by omega, hbw⟩
theorem spec_IdealStrikes {A : Option Addr} {n c : Nat} {x y z : Int} {l : List ByteArray} {w : World} (hn : l.length = n) (h : Strs w A l) (hz : n ≤ 1048576) (hs : ∀ s ∈ l, s.size ≤ 16777216) :
    Calls Try.prog 45 #[.agg #[.int .i64 x, .int .i64 y, .int .i64 z], .slice A n c] w fun e w' => ∃ A' c', e = .returned (.tuple #[.slice A' (idlR x y z l).length c', .bool (idlOk x y z l)]) ∧
      Owned strikeE 2 116 w' w.heap.size A' (idlR x y z l).length c' (idlR x y z l) ∧ (idlR x y z l).length ≤ 16777216 ∧ Below w.heap.size w w' := by
  subst hn
  have E : Hid (idlOk x y z l = (goodBeatB x y z && (goodRows l && goodStrikes (idl x y z l l.length)))) := rfl
  have b0 : Below w.heap.size w (w.alloc (.cells #[.int .i64 x, .int .i64 y, .int .i64 z] 31)) := by (repeat' (first | (with_reducible exact Below.refl _ _) | (with_reducible assumption) | (with_reducible refine below_drewN ?_ _) | (with_reducible refine Below.drew ?_) | (with_reducible refine below_alloc ?_ _) | (with_reducible refine Below.alloc ?_ ?_ _) | (with_reducible refine Below.setCell ?_ ?_ _) | (with_reducible refine below_go ?_ (by with_reducible assumption)) | (with_reducible refine below_then (by with_reducible assumption) ?_ ?_) | go_size))
  have K0 := Blk.at_ w 31 [.int .i64 x, .int .i64 y, .int .i64 z] (b := w.heap.size) rfl
  rcases h1 : goodBeatB x y z
  · have e0 : idlOk x y z l = false := by rw [E.out, h1]; rfl
    rw [idlR_f e0, e0]
    clear e0
    go_in
    go_wp2_with (first | (go_at_call 72; refine (spec_l21Beat _ _ _ _).mono ?_; rintro e w1 ⟨rfl, hb1⟩; rw [h1]))
    go_ret2
    exact ⟨none, 0, rfl, Owned.nil strikeE_len _ _ _, by decide, below_go b0 hb1⟩
  rcases h2 : goodRows l
  · have e0 : idlOk x y z l = false := by rw [E.out, h1, h2]; rfl
    rw [idlR_f e0, e0]
    clear e0
    go_in
    go_wp2_with (first | (go_at_call 72; refine (spec_l21Beat _ _ _ _).mono ?_; rintro e w1 ⟨rfl, hb1⟩; rw [h1]) | (go_at_call 95; refine (spec_l6Rows rfl ((h.up b0).up hb1) (by omega) hs).mono ?_; rintro e w2 ⟨rfl, hb2⟩; rw [h2]))
    go_ret2
    exact ⟨none, 0, rfl, Owned.nil strikeE_len _ _ _, by decide, below_go (below_go b0 hb1) hb2⟩
  have ARMS : True := trivial
  rcases h3 : goodStrikes (idl x y z l l.length)
  · have e0 : idlOk x y z l = false := by rw [E.out, h1, h2, h3]; rfl
    rw [idlR_f e0, e0]
    clear e0
    go_in
    go_wp2_with (first | (go_at_call 72; refine (spec_l21Beat _ _ _ _).mono ?_; rintro e w1 ⟨rfl, hb1⟩; rw [h1]) | (go_at_call 95; refine (spec_l6Rows rfl ((h.up b0).up hb1) (by omega) hs).mono ?_; rintro e w2 ⟨rfl, hb2⟩; rw [h2]; have KB := (K0.up hb1).up hb2; have c0 := KB.cell 0; have c1 := KB.cell 1; have c2 := KB.cell 2; simp only [List.getElem?_cons_zero, List.getElem?_cons_succ] at c0 c1 c2; clear KB) | (go_at_call 97; refine (spec_l21Ideal rfl (((h.up b0).up hb1).up hb2) h1 h2).mono ?_; rintro e w3 ⟨A3, c3, rfl, ho3, hl3, hb3⟩) | (go_at_call 96; refine (spec_l21Good rfl ho3.recs (by omega)).mono ?_; rintro e w4 ⟨rfl, hb4⟩; rw [h3]))
    go_ret2
    exact ⟨none, 0, rfl, Owned.nil strikeE_len _ _ _, by decide, below_go (below_go (below_go (below_go b0 hb1) hb2) hb3) hb4⟩
  · have e0 : idlOk x y z l = true := by rw [E.out, h1, h2, h3]; rfl
    rw [idlR_t e0, e0]
    clear e0
    go_in
    go_wp2_with fail
    refine (spec_l21Beat _ _ _ _).mono ?_; rintro e w1 ⟨rfl, hb1⟩; rw [h1]
    go_wp2_with fail
    refine (spec_l6Rows rfl ((h.up b0).up hb1) (by omega) hs).mono ?_; rintro e w2 ⟨rfl, hb2⟩; rw [h2]
    have KB := (K0.up hb1).up hb2
    have c0 := KB.cell 0; have c1 := KB.cell 1; have c2 := KB.cell 2
    simp only [List.getElem?_cons_zero, List.getElem?_cons_succ] at c0 c1 c2
    go_wp2_with fail
    refine (spec_l21Ideal rfl (((h.up b0).up hb1).up hb2) h1 h2).mono ?_; rintro e w3 ⟨A3, c3, rfl, ho3, hl3, hb3⟩
    clear c0 c1 c2
    go_wp2_with fail
    refine (spec_l21Good rfl ho3.recs (by omega)).mono ?_; rintro e w4 ⟨rfl, hb4⟩; rw [h3]
    have KC := (KB.up hb3).up hb4
    have c0 := KC.cell 0; have c1 := KC.cell 1; have c2 := KC.cell 2
    simp only [List.getElem?_cons_zero, List.getElem?_cons_succ] at c0 c1 c2
    have hbX := below_go (below_go (below_go (below_go b0 hb1) hb2) hb3) hb4
    go_wp2_with fail
    refine (spec_l21Ideal rfl (h.below hbX (Nat.le_refl _)) h1 h2).mono ?_; rintro e w5 ⟨A5, c5, rfl, ho5, hl5, hb5⟩
    go_wp2
    go_ret2
    exact ⟨A5, c5, rfl, ho5.base_le hbX.size, by omega, below_go hbX hb5⟩
end Go.Proofs.Ytcpfcgcdahhnjaa
