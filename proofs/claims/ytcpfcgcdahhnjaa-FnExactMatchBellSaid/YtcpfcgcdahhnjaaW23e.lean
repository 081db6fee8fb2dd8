/- The walks through the errors of blows, both sides. -/
import Derived.Test.YtcpfcgcdahhnjaaW23b
import Derived.Test.YtcpfcgcdahhnjaaW21
import Derived.Test.YtcpfcgcdahhnjaaTab
import Derived.Test.YtcpfcgcdahhnjaaApp
namespace Go.Proofs.Ytcpfcgcdahhnjaa
set_option linter.unusedVariables false
set_option linter.unusedSimpArgs false
open Go.ChangeShapes Go.WideShapes Go.ChangeAt Go.RowKit Go.Deep
theorem blowAtZ_bd {x y z n r p : Int} (hx : 0 ≤ x ∧ x ≤ 1000000) (hy : 1 ≤ y ∧ y ≤ 2000) (hz : 0 ≤ z ∧ z ≤ 2000) (hn : 3 ≤ n ∧ n ≤ 8) (hr : 0 ≤ r ∧ r ≤ 800) (hp : 1 ≤ p ∧ p ≤ 8) : 0 ≤ blowAtZ x y z n r p ∧ blowAtZ x y z n r p ≤ 100000000 := by
  obtain ⟨nr, hnr⟩ : ∃ t, t = n * r := ⟨_, rfl⟩
  have hnr0 : 0 ≤ nr := by rw [hnr]; exact Int.mul_nonneg (by omega) hr.1
  have hnr1 : nr ≤ 6400 := by rw [hnr]; exact Int.le_trans (Int.mul_le_mul hn.2 hr.2 hr.1 (by omega)) (by decide)
  have hq0 : 0 ≤ y * (nr + p - 1) := Int.mul_nonneg (by omega) (by omega)
  have hq1 : y * (nr + p - 1) ≤ 40000000 := Int.le_trans (Int.mul_le_mul hy.2 (show nr + p - 1 ≤ 20000 by omega) (by omega) (by omega)) (by decide)
  have hs0 : 0 ≤ z * (r / 2) := Int.mul_nonneg (by omega) (by omega)
  have hs1 : z * (r / 2) ≤ 2000000 := Int.le_trans (Int.mul_le_mul hz.2 (show r / 2 ≤ 1000 by omega) (by omega) (by omega)) (by decide)
  unfold blowAtZ
  rw [← hnr]
  omega
set_option maxHeartbeats 1000000 in
set_option maxRecDepth 100000 in
theorem impl_ErrorsOf {A : Option Addr} {m c : Nat} {n x y z : Int} {l : List Blow3} {w : World} (hm : l.length = m) (h : Recs blowE 3 w A l) (hz : m ≤ 1048576) :
    Calls Try.prog 19 #[.int .i64 n, .slice A m c, .agg #[.int .i64 x, .int .i64 y, .int .i64 z]] w fun e w' => ∃ A' c', e = .returned (.tuple #[.slice A' (errR n l x y z).length c', .bool (errOk n l x y z)]) ∧
      Owned intE 1 3 w' w.heap.size A' (errR n l x y z).length c' (errR n l x y z) ∧ (errR n l x y z).length ≤ 16777216 ∧ Below w.heap.size w w' := by
  subst hm
  have E : Hid (errOk n l x y z = (goodBlows n l && goodBeatB x y z)) := rfl
  have b0 : Below w.heap.size w (w.alloc (.cells #[.int .i64 x, .int .i64 y, .int .i64 z] 31)) := by (repeat' (first | (with_reducible exact Below.refl _ _) | (with_reducible assumption) | (with_reducible refine below_drewN ?_ _) | (with_reducible refine Below.drew ?_) | (with_reducible refine below_alloc ?_ _) | (with_reducible refine Below.alloc ?_ ?_ _) | (with_reducible refine Below.setCell ?_ ?_ _) | (with_reducible refine below_go ?_ (by with_reducible assumption)) | (with_reducible refine below_then (by with_reducible assumption) ?_ ?_) | go_size))
  have K0 := Blk.at_ w 31 [.int .i64 x, .int .i64 y, .int .i64 z] (b := w.heap.size) rfl
  rcases h1 : goodBlows n l
  · have e0 : errOk n l x y z = false := by rw [E.out, h1]; rfl
    rw [errR_f e0, e0]
    clear e0
    go_in
    go_wp2_with (first | (go_at_call 26; refine (impl_GoodBlows rfl (h.up b0) (by omega)).mono ?_; rintro e w1 ⟨rfl, hb1⟩; rw [h1]))
    go_ret2
    exact ⟨none, 0, rfl, Owned.nil intE_len _ _ _, by decide, below_go b0 hb1⟩
  rcases h2 : goodBeatB x y z
  · have e0 : errOk n l x y z = false := by rw [E.out, h1, h2]; rfl
    rw [errR_f e0, e0]
    clear e0
    go_in
    go_wp2_with (first | (go_at_call 26; refine (impl_GoodBlows rfl (h.up b0) (by omega)).mono ?_; rintro e w1 ⟨rfl, hb1⟩; rw [h1]; have KB := K0.up hb1; have c0 := KB.cell 0; have c1 := KB.cell 1; have c2 := KB.cell 2; simp only [List.getElem?_cons_zero, List.getElem?_cons_succ] at c0 c1 c2; clear KB) | (go_at_call 75; refine (impl_GoodBeat _ _ _ _).mono ?_; rintro e w2 ⟨rfl, hb2⟩; rw [h2]))
    go_ret2
    exact ⟨none, 0, rfl, Owned.nil intE_len _ _ _, by decide, below_go (below_go b0 hb1) hb2⟩
  · have e0 : errOk n l x y z = true := by rw [E.out, h1, h2]; rfl
    have hR := Lib.hid (errR_t e0)
    have hlR := Lib.hid (show (errR n l x y z).length = l.length by rw [errR_t e0, List.length_map])
    rw [e0, hlR.out]
    obtain ⟨hn, hlen, hbl⟩ := goodBlows_t h1
    obtain ⟨hx, hy, hzz⟩ := goodBeat_t h2
    have HBL := Lib.hid hbl
    clear e0 hbl
    go_in
    go_wp2_with (first | (go_at_call 26; refine (impl_GoodBlows rfl (h.up b0) (by omega)).mono ?_; rintro e w1 ⟨rfl, hb1⟩; rw [h1]; have KB := K0.up hb1; have c0 := KB.cell 0; have c1 := KB.cell 1; have c2 := KB.cell 2; simp only [List.getElem?_cons_zero, List.getElem?_cons_succ] at c0 c1 c2; clear KB) | (go_at_call 75; refine (impl_GoodBeat _ _ _ _).mono ?_; rintro e w2 ⟨rfl, hb2⟩; rw [h2]))
    have hbA : Below w.heap.size w w2 := below_go (below_go b0 hb1) hb2
    have hsA : w.heap.size < w2.heap.size := by have := hb1.size; have := hb2.size; simp at *; omega
    have HK := Lib.hid ((K0.up hb1).up hb2)
    clear c0 c1 c2 K0 b0 hb1 hb2
    go_loopw [8, 23] (fun v i wr => ∃ (k : Nat) (A' : Option Addr) (c' : Nat), k ≤ l.length ∧ i = .int .i64 k ∧ v = .slice A' k c' ∧ Owned intE 1 3 wr w2.heap.size A' k c' ((l.take k).map (errAt n x y z)) ∧ Below w2.heap.size w2 wr) (fun _ i _ => l.length - (intOf i).toNat)
    case atStart => exact ⟨0, _, _, Nat.zero_le _, rfl, rfl, Owned.empty intE_len _ _ (Nat.le_refl _), by (repeat' (first | (with_reducible exact Below.refl _ _) | (with_reducible assumption) | (with_reducible refine below_drewN ?_ _) | (with_reducible refine Below.drew ?_) | (with_reducible refine below_alloc ?_ _) | (with_reducible refine Below.alloc ?_ ?_ _) | (with_reducible refine Below.setCell ?_ ?_ _) | (with_reducible refine below_go ?_ (by with_reducible assumption)) | (with_reducible refine below_then (by with_reducible assumption) ?_ ?_) | go_size))⟩
    case round =>
      obtain ⟨k, A', c', hk, rfl, rfl, ho, hb⟩ := hrel
      rename World => wo
      have hbw := hbA.trans (hb.mono (by omega))
      by_cases hlt : k < l.length
      · obtain ⟨bl, hbl⟩ := some_of_lt hlt
        have hbb := HBL.out bl (List.mem_of_getElem? hbl)
        obtain ⟨b1, o1, rfl, hbb1, hc1, hc2, hc3⟩ := (h.below hbw (Nat.le_refl _)).at_3 hbl
        have HX := Lib.hid hbl
        have HO := Lib.hid ho
        have hsz := hb.size
        have KB := HK.out.up hb
        have k0 := KB.cell 0; have k1 := KB.cell 1; have k2 := KB.cell 2
        simp only [List.getElem?_cons_zero, List.getElem?_cons_succ] at k0 k1 k2
        clear hbl ho h KB
        go_wp2
        obtain ⟨W1, hW1⟩ : ∃ u, u = wo.alloc (.cells #[.int .i64 bl.1, .int .i64 bl.2.1, .int .i64 bl.2.2] 97) := ⟨_, rfl⟩
        have BX := Blk.at_ wo 97 [.int .i64 bl.1, .int .i64 bl.2.1, .int .i64 bl.2.2] (b := wo.heap.size) rfl
        have hbW : Below wo.heap.size wo W1 := by rw [hW1]; exact (Below.refl _ _).alloc (Nat.le_refl _) _
        have szW : W1.heap.size = wo.heap.size + 1 := by rw [hW1]; simp
        rw [← hW1] at BX ⊢
        clear hW1
        have d0 := BX.cell 0; have d1 := BX.cell 1; have d2 := BX.cell 2
        simp only [List.getElem?_cons_zero, List.getElem?_cons_succ] at d0 d1 d2
        have carry : Hid (∀ u : World, Below W1.heap.size W1 u → u.cell? ⟨w.heap.size, 0, none⟩ = some (.int .i64 x) ∧ u.cell? ⟨w.heap.size, 1, none⟩ = some (.int .i64 y) ∧ u.cell? ⟨w.heap.size, 2, none⟩ = some (.int .i64 z) ∧ u.cell? ⟨wo.heap.size, 0, none⟩ = some (.int .i64 bl.1) ∧ u.cell? ⟨wo.heap.size, 1, none⟩ = some (.int .i64 bl.2.1) ∧ u.cell? ⟨wo.heap.size, 2, none⟩ = some (.int .i64 bl.2.2)) := Lib.hid (fun u hu =>
          have hu' := hbW.trans (hu.mono hbW.size)
          have q : ∀ o : Nat, u.cell? ⟨w.heap.size, o, none⟩ = wo.cell? ⟨w.heap.size, o, none⟩ := fun o => hu'.cell (p := ⟨w.heap.size, o, none⟩) (by show w.heap.size < wo.heap.size; omega)
          have q' : ∀ o : Nat, u.cell? ⟨wo.heap.size, o, none⟩ = W1.cell? ⟨wo.heap.size, o, none⟩ := fun o => hu.cell (p := ⟨wo.heap.size, o, none⟩) (by show wo.heap.size < W1.heap.size; omega)
          ⟨(q 0).trans k0, (q 1).trans k1, (q 2).trans k2, (q' 0).trans d0, (q' 1).trans d1, (q' 2).trans d2⟩)
        have far : Hid (∀ v u : World, Below W1.heap.size W1 v → v.grownBy u (Value.slice A' k c').ownBlock → u.cell? ⟨w.heap.size, 0, none⟩ = some (.int .i64 x) ∧ u.cell? ⟨w.heap.size, 1, none⟩ = some (.int .i64 y) ∧ u.cell? ⟨w.heap.size, 2, none⟩ = some (.int .i64 z) ∧ u.cell? ⟨wo.heap.size, 0, none⟩ = some (.int .i64 bl.1) ∧ u.cell? ⟨wo.heap.size, 1, none⟩ = some (.int .i64 bl.2.1) ∧ u.cell? ⟨wo.heap.size, 2, none⟩ = some (.int .i64 bl.2.2)) := Lib.hid (fun v u hv hg => by
          have hvs := hv.size
          have f1 : ∀ o : Nat, u.cell? ⟨w.heap.size, o, none⟩ = v.cell? ⟨w.heap.size, o, none⟩ := fun o => hg.cell_far _ (by show w.heap.size < v.heap.size; omega) (fun e => by have := HO.out.blk e.symm; dsimp only at this; omega)
          have f2 : ∀ o : Nat, u.cell? ⟨wo.heap.size, o, none⟩ = v.cell? ⟨wo.heap.size, o, none⟩ := fun o => hg.cell_far _ (by show wo.heap.size < v.heap.size; omega) (fun e => by have := HO.out.blk e.symm; dsimp only at this; omega)
          rw [f1, f1, f1, f2, f2, f2]
          exact carry.out v hv)
        have S0 := carry.out _ (Below.refl _ _)
        obtain ⟨s0, s1, s2, s3, s4, s5⟩ := S0
        have HOW := Lib.hid (HO.out.up hbW)
        clear k0 k1 k2 d0 d1 d2
        have EA : Hid (errAt n x y z bl = bl.2.2 - blowAtZ x y z n bl.1 bl.2.1) := rfl
        have bb := blowAtZ_bd hx hy hzz hn hbb.1 ⟨hbb.2.1.1, by omega⟩
        obtain ⟨bz, hbz⟩ : ∃ u, u = blowAtZ x y z n bl.1 bl.2.1 := ⟨_, rfl⟩
        have HBZ := Lib.hid hbz
        rw [← hbz] at bb
        clear hbz
        have g1 := wrap_id (x := bl.2.2 - bz) (by omega)
        go_region_held3 (fun u => u.cell? ⟨w.heap.size, 0, none⟩ = some (.int .i64 x) ∧ u.cell? ⟨w.heap.size, 1, none⟩ = some (.int .i64 y) ∧ u.cell? ⟨w.heap.size, 2, none⟩ = some (.int .i64 z) ∧ u.cell? ⟨wo.heap.size, 0, none⟩ = some (.int .i64 bl.1) ∧ u.cell? ⟨wo.heap.size, 1, none⟩ = some (.int .i64 bl.2.1) ∧ u.cell? ⟨wo.heap.size, 2, none⟩ = some (.int .i64 bl.2.2)) (first | exact far.out _ _ (hB2.alloc hB2.size _) hg3 | exact carry.out _ (hB2.alloc hB2.size _) | exact carry.out _ hB2 | exact carry.out _ (by (repeat' (first | (with_reducible exact Below.refl _ _) | (with_reducible assumption) | (with_reducible refine below_drewN ?_ _) | (with_reducible refine Below.drew ?_) | (with_reducible refine below_alloc ?_ _) | (with_reducible refine Below.alloc ?_ ?_ _) | (with_reducible refine Below.setCell ?_ ?_ _) | (with_reducible refine below_go ?_ (by with_reducible assumption)) | (with_reducible refine below_then (by with_reducible assumption) ?_ ?_) | go_size)))) (first | (go_at_call 76; refine (impl_blowAt _ _ _ _ _ _ _ hx hy hzz (by omega) (by omega) (by omega)).mono ?_; rintro e w3 ⟨rfl, hbd⟩; rw [← HBZ.out]; have hB2 := below_of_drew hbd) | ((refine step_append_rec Try.elInt (by rfl) _ _ (by rfl) (by rfl) ((HOW.out.up hB2).alloc _) (bl.2.2 - bz) (by rfl) (Box.at_ _ [.int .i64 (bl.2.2 - bz)] _ (by rfl)) (intE_one _) (by omega) (by decide) (by have := hB2.size; simp; omega) ?_; intro A2 c2 w4 ho2 hg3 hb3)))
        have hfin := ((hb.trans (hbW.mono hsz)).trans ((hB2.alloc hB2.size _).mono (by omega))).trans hb3
        clear HOW far carry s0 s1 s2 s3 s4 s5
        go_wp2
        go_roundw
        case rel =>
          refine ⟨k + 1, A2, c2, by omega, by go_num, by go_num, ?_, hfin⟩
          rw [take_succ_some HX.out, List.map_append, List.map_cons, List.map_nil, EA.out, ← HBZ.out]; exact ho2
        case measure => simp [intOf]; omega
      · obtain rfl : k = l.length := by omega
        rw [List.take_of_length_le (Nat.le_refl _), ← hR.out] at ho
        go_wp2
        go_ret2
        exact ⟨_, _, rfl, ho.base_le (by omega), by omega, hbw⟩
set_option maxHeartbeats 1000000 in
set_option maxRecDepth 100000 in
theorem spec_ErrorsOf {A : Option Addr} {m c : Nat} {n x y z : Int} {l : List Blow3} {w : World} (hm : l.length = m) (h : Recs blowE 3 w A l) (hz : m ≤ 1048576) (hcap : m ≤ c) (hcb : c ≤ 16777216) :
    Calls Try.prog 16 #[.int .i64 n, .slice A m c, .agg #[.int .i64 x, .int .i64 y, .int .i64 z]] w fun e w' => ∃ A' c', e = .returned (.tuple #[.slice A' (errR n l x y z).length c', .bool (errOk n l x y z)]) ∧
      Owned intE 1 3 w' w.heap.size A' (errR n l x y z).length c' (errR n l x y z) ∧ (errR n l x y z).length ≤ 16777216 ∧ Below w.heap.size w w' := by
  subst hm
  have E : Hid (errOk n l x y z = (goodBlows n l && goodBeatB x y z)) := rfl
  have b0 : Below w.heap.size w (w.alloc (.cells #[.int .i64 x, .int .i64 y, .int .i64 z] 31)) := by (repeat' (first | (with_reducible exact Below.refl _ _) | (with_reducible assumption) | (with_reducible refine below_drewN ?_ _) | (with_reducible refine Below.drew ?_) | (with_reducible refine below_alloc ?_ _) | (with_reducible refine Below.alloc ?_ ?_ _) | (with_reducible refine Below.setCell ?_ ?_ _) | (with_reducible refine below_go ?_ (by with_reducible assumption)) | (with_reducible refine below_then (by with_reducible assumption) ?_ ?_) | go_size))
  have K0 := Blk.at_ w 31 [.int .i64 x, .int .i64 y, .int .i64 z] (b := w.heap.size) rfl
  rcases h1 : goodBlows n l
  · have e0 : errOk n l x y z = false := by rw [E.out, h1]; rfl
    rw [errR_f e0, e0]
    clear e0
    go_in
    go_wp2_with (first | (go_at_call 71; refine (spec_l23Good rfl (h.up b0) (by omega) hcap hcb).mono ?_; rintro e w1 ⟨rfl, hb1⟩; rw [h1]))
    go_ret2
    exact ⟨none, 0, rfl, Owned.nil intE_len _ _ _, by decide, below_go b0 hb1⟩
  rcases h2 : goodBeatB x y z
  · have e0 : errOk n l x y z = false := by rw [E.out, h1, h2]; rfl
    rw [errR_f e0, e0]
    clear e0
    go_in
    go_wp2_with (first | (go_at_call 71; refine (spec_l23Good rfl (h.up b0) (by omega) hcap hcb).mono ?_; rintro e w1 ⟨rfl, hb1⟩; rw [h1]; have KB := K0.up hb1; have c0 := KB.cell 0; have c1 := KB.cell 1; have c2 := KB.cell 2; simp only [List.getElem?_cons_zero, List.getElem?_cons_succ] at c0 c1 c2; clear KB) | (go_at_call 72; refine (spec_l21Beat _ _ _ _).mono ?_; rintro e w2 ⟨rfl, hb2⟩; rw [h2]))
    go_ret2
    exact ⟨none, 0, rfl, Owned.nil intE_len _ _ _, by decide, below_go (below_go b0 hb1) hb2⟩
  · have e0 : errOk n l x y z = true := by rw [E.out, h1, h2]; rfl
    have hR := Lib.hid (errR_t e0)
    have hlR := Lib.hid (show (errR n l x y z).length = l.length by rw [errR_t e0, List.length_map])
    rw [e0, hlR.out]
    obtain ⟨hn, hlen, hbl⟩ := goodBlows_t h1
    obtain ⟨hx, hy, hzz⟩ := goodBeat_t h2
    have HBL := Lib.hid hbl
    clear e0 hbl
    go_in
    go_wp2_with (first | (go_at_call 71; refine (spec_l23Good rfl (h.up b0) (by omega) hcap hcb).mono ?_; rintro e w1 ⟨rfl, hb1⟩; rw [h1]; have KB := K0.up hb1; have c0 := KB.cell 0; have c1 := KB.cell 1; have c2 := KB.cell 2; simp only [List.getElem?_cons_zero, List.getElem?_cons_succ] at c0 c1 c2; clear KB) | (go_at_call 72; refine (spec_l21Beat _ _ _ _).mono ?_; rintro e w2 ⟨rfl, hb2⟩; rw [h2]))
    have hbA : Below w.heap.size w w2 := below_go (below_go b0 hb1) hb2
    have hsA : w.heap.size < w2.heap.size := by have := hb1.size; have := hb2.size; simp at *; omega
    have HK := Lib.hid ((K0.up hb1).up hb2)
    clear c0 c1 c2 K0 b0 hb1 hb2
    go_loopw [8, 22] (fun v i wr => ∃ (k : Nat) (A' : Option Addr) (c' : Nat), k ≤ l.length ∧ i = .int .i64 k ∧ v = .slice A' k c' ∧ Owned intE 1 3 wr w2.heap.size A' k c' ((l.take k).map (errAt n x y z)) ∧ Below w2.heap.size w2 wr) (fun _ i _ => l.length - (intOf i).toNat)
    case atStart => exact ⟨0, _, _, Nat.zero_le _, rfl, rfl, Owned.nil intE_len _ _ _, by (repeat' (first | (with_reducible exact Below.refl _ _) | (with_reducible assumption) | (with_reducible refine below_drewN ?_ _) | (with_reducible refine Below.drew ?_) | (with_reducible refine below_alloc ?_ _) | (with_reducible refine Below.alloc ?_ ?_ _) | (with_reducible refine Below.setCell ?_ ?_ _) | (with_reducible refine below_go ?_ (by with_reducible assumption)) | (with_reducible refine below_then (by with_reducible assumption) ?_ ?_) | go_size))⟩
    case round =>
      obtain ⟨k, A', c', hk, rfl, rfl, ho, hb⟩ := hrel
      rename World => wo
      have hbw := hbA.trans (hb.mono (by omega))
      by_cases hlt : k < l.length
      · obtain ⟨bl, hbl⟩ := some_of_lt hlt
        have hbb := HBL.out bl (List.mem_of_getElem? hbl)
        obtain ⟨b1, o1, rfl, hbb1, hc1, hc2, hc3⟩ := (h.below hbw (Nat.le_refl _)).at_3 hbl
        have HX := Lib.hid hbl
        have HO := Lib.hid ho
        have hsz := hb.size
        have KB := HK.out.up hb
        have k0 := KB.cell 0; have k1 := KB.cell 1; have k2 := KB.cell 2
        simp only [List.getElem?_cons_zero, List.getElem?_cons_succ] at k0 k1 k2
        clear hbl ho h KB
        go_wp2
        obtain ⟨W1, hW1⟩ : ∃ u, u = wo.alloc (.cells #[.int .i64 bl.1, .int .i64 bl.2.1, .int .i64 bl.2.2] 97) := ⟨_, rfl⟩
        have BX := Blk.at_ wo 97 [.int .i64 bl.1, .int .i64 bl.2.1, .int .i64 bl.2.2] (b := wo.heap.size) rfl
        have hbW : Below wo.heap.size wo W1 := by rw [hW1]; exact (Below.refl _ _).alloc (Nat.le_refl _) _
        have szW : W1.heap.size = wo.heap.size + 1 := by rw [hW1]; simp
        rw [← hW1] at BX ⊢
        clear hW1
        have d0 := BX.cell 0; have d1 := BX.cell 1; have d2 := BX.cell 2
        simp only [List.getElem?_cons_zero, List.getElem?_cons_succ] at d0 d1 d2
        have carry : Hid (∀ u : World, Below W1.heap.size W1 u → u.cell? ⟨w.heap.size, 0, none⟩ = some (.int .i64 x) ∧ u.cell? ⟨w.heap.size, 1, none⟩ = some (.int .i64 y) ∧ u.cell? ⟨w.heap.size, 2, none⟩ = some (.int .i64 z) ∧ u.cell? ⟨wo.heap.size, 0, none⟩ = some (.int .i64 bl.1) ∧ u.cell? ⟨wo.heap.size, 1, none⟩ = some (.int .i64 bl.2.1) ∧ u.cell? ⟨wo.heap.size, 2, none⟩ = some (.int .i64 bl.2.2)) := Lib.hid (fun u hu =>
          have hu' := hbW.trans (hu.mono hbW.size)
          have q : ∀ o : Nat, u.cell? ⟨w.heap.size, o, none⟩ = wo.cell? ⟨w.heap.size, o, none⟩ := fun o => hu'.cell (p := ⟨w.heap.size, o, none⟩) (by show w.heap.size < wo.heap.size; omega)
          have q' : ∀ o : Nat, u.cell? ⟨wo.heap.size, o, none⟩ = W1.cell? ⟨wo.heap.size, o, none⟩ := fun o => hu.cell (p := ⟨wo.heap.size, o, none⟩) (by show wo.heap.size < W1.heap.size; omega)
          ⟨(q 0).trans k0, (q 1).trans k1, (q 2).trans k2, (q' 0).trans d0, (q' 1).trans d1, (q' 2).trans d2⟩)
        have far : Hid (∀ v u : World, Below W1.heap.size W1 v → v.grownBy u (Value.slice A' k c').ownBlock → u.cell? ⟨w.heap.size, 0, none⟩ = some (.int .i64 x) ∧ u.cell? ⟨w.heap.size, 1, none⟩ = some (.int .i64 y) ∧ u.cell? ⟨w.heap.size, 2, none⟩ = some (.int .i64 z) ∧ u.cell? ⟨wo.heap.size, 0, none⟩ = some (.int .i64 bl.1) ∧ u.cell? ⟨wo.heap.size, 1, none⟩ = some (.int .i64 bl.2.1) ∧ u.cell? ⟨wo.heap.size, 2, none⟩ = some (.int .i64 bl.2.2)) := Lib.hid (fun v u hv hg => by
          have hvs := hv.size
          have f1 : ∀ o : Nat, u.cell? ⟨w.heap.size, o, none⟩ = v.cell? ⟨w.heap.size, o, none⟩ := fun o => hg.cell_far _ (by show w.heap.size < v.heap.size; omega) (fun e => by have := HO.out.blk e.symm; dsimp only at this; omega)
          have f2 : ∀ o : Nat, u.cell? ⟨wo.heap.size, o, none⟩ = v.cell? ⟨wo.heap.size, o, none⟩ := fun o => hg.cell_far _ (by show wo.heap.size < v.heap.size; omega) (fun e => by have := HO.out.blk e.symm; dsimp only at this; omega)
          rw [f1, f1, f1, f2, f2, f2]
          exact carry.out v hv)
        have S0 := carry.out _ (Below.refl _ _)
        obtain ⟨s0, s1, s2, s3, s4, s5⟩ := S0
        have HOW := Lib.hid (HO.out.up hbW)
        clear k0 k1 k2 d0 d1 d2
        have EA : Hid (errAt n x y z bl = bl.2.2 - blowAtZ x y z n bl.1 bl.2.1) := rfl
        have bb := blowAtZ_bd hx hy hzz hn hbb.1 ⟨hbb.2.1.1, by omega⟩
        obtain ⟨bz, hbz⟩ : ∃ u, u = blowAtZ x y z n bl.1 bl.2.1 := ⟨_, rfl⟩
        have HBZ := Lib.hid hbz
        rw [← hbz] at bb
        clear hbz
        have g1 := wrap_id (x := bl.2.2 - bz) (by omega)
        go_region_held3 (fun u => u.cell? ⟨w.heap.size, 0, none⟩ = some (.int .i64 x) ∧ u.cell? ⟨w.heap.size, 1, none⟩ = some (.int .i64 y) ∧ u.cell? ⟨w.heap.size, 2, none⟩ = some (.int .i64 z) ∧ u.cell? ⟨wo.heap.size, 0, none⟩ = some (.int .i64 bl.1) ∧ u.cell? ⟨wo.heap.size, 1, none⟩ = some (.int .i64 bl.2.1) ∧ u.cell? ⟨wo.heap.size, 2, none⟩ = some (.int .i64 bl.2.2)) (first | exact far.out _ _ (hB2.alloc hB2.size _) hg3 | exact carry.out _ (hB2.alloc hB2.size _) | exact carry.out _ hB2 | exact carry.out _ (by (repeat' (first | (with_reducible exact Below.refl _ _) | (with_reducible assumption) | (with_reducible refine below_drewN ?_ _) | (with_reducible refine Below.drew ?_) | (with_reducible refine below_alloc ?_ _) | (with_reducible refine Below.alloc ?_ ?_ _) | (with_reducible refine Below.setCell ?_ ?_ _) | (with_reducible refine below_go ?_ (by with_reducible assumption)) | (with_reducible refine below_then (by with_reducible assumption) ?_ ?_) | go_size)))) (first | (go_at_call 73; refine (spec_l21Blow _ _ _ _ _ _ _ hx hy hzz (by omega) (by omega) (by omega)).mono ?_; rintro e w3 ⟨rfl, hbd⟩; rw [← HBZ.out]; have hB2 := below_of_drew hbd) | ((refine step_append_rec Try.elInt (by rfl) _ _ (by rfl) (by rfl) ((HOW.out.up hB2).alloc _) (bl.2.2 - bz) (by rfl) (Box.at_ _ [.int .i64 (bl.2.2 - bz)] _ (by rfl)) (intE_one _) (by omega) (by decide) (by have := hB2.size; simp; omega) ?_; intro A2 c2 w4 ho2 hg3 hb3)))
        have hfin := ((hb.trans (hbW.mono hsz)).trans ((hB2.alloc hB2.size _).mono (by omega))).trans hb3
        clear HOW far carry s0 s1 s2 s3 s4 s5
        go_wp2
        go_roundw
        case rel =>
          refine ⟨k + 1, A2, c2, by omega, by go_num, by go_num, ?_, hfin⟩
          rw [take_succ_some HX.out, List.map_append, List.map_cons, List.map_nil, EA.out, ← HBZ.out]; exact ho2
        case measure => simp [intOf]; omega
      · obtain rfl : k = l.length := by omega
        rw [List.take_of_length_le (Nat.le_refl _), ← hR.out] at ho
        go_wp2
        go_ret2
        exact ⟨_, _, rfl, ho.base_le (by omega), by omega, hbw⟩
end Go.Proofs.Ytcpfcgcdahhnjaa
