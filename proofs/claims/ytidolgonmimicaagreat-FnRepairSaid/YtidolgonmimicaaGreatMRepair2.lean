/- Texts 2 of 6 that the claim leans on: plain laws and the walks' contracts, in order. -/
import Derived.Test.YtidolgonmimicaaGreatMRepair1
import Derived.BigRegion
import Derived.Lib.Strings
import Derived.Deep.Cut
set_option linter.unusedVariables false
set_option linter.unusedSimpArgs false
namespace Go.Proofs.YtidolgonmimicaaGreat
open Go.ChangeShapes Go.WideShapes Go.ChangeAt Go.RowKit Go.Deep
set_option maxRecDepth 100000 in
theorem impl_places {c : ByteArray} {w : World} (hz : c.size ≤ 16777216) :
  Calls Tryz.prog 246 #[.string c] w fun e w' => ∃ A' c', e = .returned (.tuple #[.slice A' (plR c).length c', .bool (validD c)]) ∧
   Owned intE 1 3 w' w.heap.size A' (plR c).length c' (plR c) ∧ Below w.heap.size w w' := by
 have hb := PlainAid.get_bt c
 go_in
 go_wp2
 go_loopw [4, 9] (fun v i wr => ∃ (k : Nat) (A' : Option Addr) (m c' : Nat), k ≤ c.size ∧ i = .int .i64 k ∧ v = .slice A' m c' ∧ m = k ∧ Hid (∀ j, j < k → inB (dg c j) 1 8 = true) ∧ Owned intE 1 3 wr w.heap.size A' m c' ((digs c).take k) ∧ Below w.heap.size w wr) (fun _ i _ => c.size - (intOf i).toNat)
 case atStart => exact ⟨0, _, _, _, Nat.zero_le _, rfl, rfl, rfl, Lib.hid (fun j hj => absurd hj (by omega)), Owned.empty intE_len _ _ (by simp), by (repeat' (first | (with_reducible exact Below.refl _ _) | (with_reducible assumption) | (with_reducible refine below_drewN ?_ _) | (with_reducible refine Below.drew ?_) | (with_reducible refine below_alloc ?_ _) | (with_reducible refine Below.alloc ?_ ?_ _) | (with_reducible refine Below.setCell ?_ ?_ _) | (with_reducible refine below_go ?_ (by with_reducible assumption)) | (with_reducible refine below_then (by with_reducible assumption) ?_ ?_) | go_size))⟩
 case round =>
  obtain ⟨k, A', m, c', hk, rfl, rfl, rfl, HK, ho, hbl⟩ := hrel
  have HO := Lib.hid ho
  have hsz := hbl.size
  clear ho
  by_cases hlt : m < c.size
  ·have HT := Lib.hid (digs_take hlt)
   have hn0 := PlainAid.bt_nonneg c m
   have hn1 := PlainAid.bt_le c m
   by_cases h1 : PlainAid.bt c m < 49
   ·have e0 := Lib.hid (valid_bad hlt (dg_low h1))
    go_wp2
    go_ret2
    rw [plR_f e0.out, e0.out]
    exact ⟨none, 0, rfl, Owned.nil intE_len _ _ _, hbl⟩
   by_cases h2 : 56 < PlainAid.bt c m
   ·have e0 := Lib.hid (valid_bad hlt (dg_high h2))
    go_wp2
    go_ret2
    rw [plR_f e0.out, e0.out]
    exact ⟨none, 0, rfl, Owned.nil intE_len _ _ _, hbl⟩
   have hw2 := wrap_dg c m
   have e1 := Lib.hid (dg_mid h1 h2)
   have hdg : PlainAid.bt c m - 48 = dg c m := rfl
   go_wp2_with (first | (at_builtin; go_must ((refine wpList_append_rec Tryz.elInt rfl (.tmp 22) (.tmp 28) rfl rfl (HO.out.alloc _) (dg c m) rfl (Box.at_ _ [.int .i64 (dg c m)] _ ?_) (intE_one _) ?_ (by decide) ?_ ?_; (focus (first | omega | (simp only [World.size_alloc]; done) | (simp only [World.size_alloc]; omega) | (simp; done) | (simp; omega))); (focus (first | omega | (simp only [World.size_alloc]; done) | (simp only [World.size_alloc]; omega) | (simp; done) | (simp; omega))); (focus (first | omega | (simp only [World.size_alloc]; done) | (simp only [World.size_alloc]; omega) | (simp; done) | (simp; omega))); intro A2 c2 w2 ho2 hg2 hb2))))
   go_roundw
   case rel =>
    exact ⟨m + 1, A2, m + 1, c2, by omega, by go_num, by go_num, rfl, Lib.hid (fun j hj => by rcases Nat.lt_succ_iff_lt_or_eq.1 hj with h | rfl; exact HK.out j h; exact e1.out), by rw [HT.out]; exact ho2, (hbl.alloc hsz _).trans hb2⟩
   case measure => simp [intOf]; omega
  ·obtain rfl : m = c.size := by omega
   have e0 := Lib.hid (valid_good (fun j hj => HK.out j hj))
   have e1 := Lib.hid (show plR c = (digs c).take c.size by rw [plR_t e0.out, List.take_of_length_le (by rw [digs_len]; omega)])
   have hl := HO.out.len
   rw [← e1.out] at hl
   go_wp2
   go_ret2
   rw [e0.out, hl]
   refine ⟨_, _, rfl, ?_, hbl⟩
   rw [e1.out]; exact HO.out
theorem arePl_0 {n : Int} {l : List Int} (h : ¬ 0 < l.length) : arePl n l = false := by simp [arePl, h]
theorem arePl_n {n : Int} {l : List Int} (h : ((l.length : Int) == n) = true) : arePl n l = false := by simp [arePl, h]
theorem arePl_first {n x : Int} {l : List Int} (hx : l[0]? = some x) (h : (x % 2 == 0) = true) : arePl n l = false := by simp [arePl, List.getD, hx, h]
theorem arePl_par {n y : Int} {l : List Int} (hy : l[l.length - 1]? = some y) (h : (y % 2 == n % 2) = false) : arePl n l = false := by simp [arePl, List.getD, hy, h]
theorem arePl_big {n y : Int} {l : List Int} (hy : l[l.length - 1]? = some y) (h : n < y) : arePl n l = false := by
 have : decide (y ≤ n) = false := by simp; omega
 simp [arePl, List.getD, hy, this]
theorem arePl_adj {n x y : Int} {l : List Int} (h0 : 0 < l.length) (hn : ((l.length : Int) == n) = false) (hx : l[0]? = some x) (hx1 : (x % 2 == 0) = false) (hy : l[l.length - 1]? = some y) (hy1 : (y % 2 == n % 2) = true) (hy2 : ¬ n < y) :
  arePl n l = adj x (l.drop 1) := by
 have : decide (y ≤ n) = true := by simp; omega
 simp only [arePl, List.getD, hx, hy, Option.getD_some, h0, hn, hx1, hy1, this, decide_true, Bool.not_false, Bool.true_and]
set_option maxRecDepth 100000 in
theorem impl_arePlaces {A : Option Addr} {N c : Nat} {l : List Int} {n : Int} {w : World} (hN : l.length = N) (h : Ints w A l) (hz : N ≤ 16777216) (hn : 3 ≤ n ∧ n ≤ 8) (ha : ∀ x ∈ l, 1 ≤ x ∧ x ≤ 8) :
  Calls Tryz.prog 247 #[.int .i64 n, .slice A N c] w fun e w' => e = .returned (.bool (arePl n l)) ∧ Below w.heap.size w w' := by
 subst hN
 by_cases h0 : 0 < l.length
 ·obtain ⟨b, o, x, rfl, hbb, hx, hc⟩ := h.at_int h0
  obtain ⟨b', o', y, hA, hbb', hy, hc'⟩ := h.at_int (k := l.length - 1) (by omega)
  injection hA with hA
  injection hA with e1 e2
  subst e1 e2
  have hx8 := ha x (List.mem_of_getElem? hx)
  have hy8 := ha y (List.mem_of_getElem? hy)
  simp only [Nat.add_zero] at hc
  have hz0 : ((l.length : Int) == 0) = false := beq_eq_false_iff_ne.2 (by omega)
  have hpred : ((l.length : Int) - 1) = ((l.length - 1 : Nat) : Int) := by omega
  rcases h1 : ((l.length : Int) == n)
  ·rcases h2 : (x % 2 == 0)
   ·rcases h3 : (y % 2 == n % 2)
    ·have e0 := Lib.hid (arePl_par (n := n) hy h3)
     have h3' : (y % 2 != n % 2) = true := by rw [bne, h3]; rfl
     clear hx hy h
     go_in
     go_wp2
     go_ret
     exact ⟨ret_bool e0.out.symm, Below.refl _ _⟩
    ·have h3' : (y % 2 != n % 2) = false := by rw [bne, h3]; rfl
     by_cases h4 : n < y
     ·have e0 := Lib.hid (arePl_big (n := n) hy h4)
      clear hx hy h
      go_in
      go_wp2
      go_ret
      exact ⟨ret_bool e0.out.symm, Below.refl _ _⟩
     ·have e0 := Lib.hid (arePl_adj h0 h1 hx h2 hy h3 h4)
      have HX := Lib.hid hx
      clear hx hy
      go_in
      go_wp2
      go_loopw [5] (fun i wr => ∃ (k : Nat) (q : Int), 0 < k ∧ k ≤ l.length ∧ i = .int .i64 k ∧ Hid (l[k - 1]? = some q ∧ arePl n l = adj q (l.drop k)) ∧ Below w.heap.size w wr) (fun i _ => l.length - (intOf i).toNat)
      case atStart => exact ⟨1, x, by omega, by omega, rfl, Lib.hid ⟨HX.out, e0.out⟩, Below.refl _ _⟩
      case round =>
       obtain ⟨k, q, hk0, hk, rfl, HK, hb⟩ := hrel
       by_cases hlt : k < l.length
       ·obtain ⟨b3, o3, y3, hA3, hbb3, hy3, hc3⟩ := (h.below hb (Nat.le_refl _)).at_int hlt
        obtain ⟨b4, o4, y4, hA4, hbb4, hy4, hc4⟩ := (h.below hb (Nat.le_refl _)).at_int (k := k - 1) (by omega)
        injection hA3 with hA3
        injection hA3 with e3 e4
        injection hA4 with hA4
        injection hA4 with e5 e6
        subst e3 e4 e5 e6
        rw [HK.out.1] at hy4
        injection hy4 with hy4
        subst hy4
        have HD := Lib.hid (show l.drop k = y3 :: l.drop (k + 1) by rw [List.drop_eq_getElem_cons hlt]; congr 1; rw [List.getElem?_eq_getElem hlt] at hy3; injection hy3)
        have HY := Lib.hid hy3
        have hq8 := ha q (List.mem_of_getElem? HK.out.1)
        have hy38 := ha y3 (List.mem_of_getElem? hy3)
        clear hy3 hpred hz0 h1 h2 h3 h3' h4 hx8 hy8 hc hc' h
        have hwk : IntKind.i64.wrap ((k : Int) - 1) = ((k - 1 : Nat) : Int) := by
         rw [PlainAid.i64_is]; unfold wrap64; omega
        have hlt1 : k - 1 < l.length := by omega
        by_cases h5 : q < y3
        ·have hmod : (IntKind.i64.wrap (y3 - q)).tmod 2 = (y3 - q) % 2 := by
          rw [PlainAid.i64_is, show wrap64 (y3 - q) = y3 - q by unfold wrap64; omega]
          exact Int.tmod_eq_emod_of_nonneg (by omega)
         rcases h6 : ((y3 - q) % 2 == 0)
         ·have e1 := Lib.hid (show arePl n l = adj y3 (l.drop (k + 1)) by rw [HK.out.2, HD.out, adj, h6, decide_eq_true h5]; rfl)
          go_wp2
          go_quiet (fail)
          go_wp2
          go_roundw
          case rel => exact ⟨k + 1, y3, by omega, by omega, by go_num, Lib.hid ⟨by rw [Nat.add_sub_cancel]; exact HY.out, e1.out⟩, by (repeat' (first | (with_reducible exact Below.refl _ _) | (with_reducible assumption) | (with_reducible refine below_drewN ?_ _) | (with_reducible refine Below.drew ?_) | (with_reducible refine below_alloc ?_ _) | (with_reducible refine Below.alloc ?_ ?_ _) | (with_reducible refine Below.setCell ?_ ?_ _) | (with_reducible refine below_go ?_ (by with_reducible assumption)) | (with_reducible refine below_then (by with_reducible assumption) ?_ ?_) | go_size))⟩
          case measure => simp [intOf]; omega
         ·have e1 := Lib.hid (show arePl n l = false by rw [HK.out.2, HD.out, adj, h6, decide_eq_true h5]; rfl)
          go_wp2
          go_quiet (fail)
          go_wp2
          go_ret
          exact ⟨ret_bool e1.out.symm, by (repeat' (first | (with_reducible exact Below.refl _ _) | (with_reducible assumption) | (with_reducible refine below_drewN ?_ _) | (with_reducible refine Below.drew ?_) | (with_reducible refine below_alloc ?_ _) | (with_reducible refine Below.alloc ?_ ?_ _) | (with_reducible refine Below.setCell ?_ ?_ _) | (with_reducible refine below_go ?_ (by with_reducible assumption)) | (with_reducible refine below_then (by with_reducible assumption) ?_ ?_) | go_size))⟩
        ·have e1 := Lib.hid (show arePl n l = false by rw [HK.out.2, HD.out, adj, decide_eq_false h5]; rfl)
         go_wp2
         go_quiet (fail)
         go_wp2
         go_ret
         exact ⟨ret_bool e1.out.symm, by (repeat' (first | (with_reducible exact Below.refl _ _) | (with_reducible assumption) | (with_reducible refine below_drewN ?_ _) | (with_reducible refine Below.drew ?_) | (with_reducible refine below_alloc ?_ _) | (with_reducible refine Below.alloc ?_ ?_ _) | (with_reducible refine Below.setCell ?_ ?_ _) | (with_reducible refine below_go ?_ (by with_reducible assumption)) | (with_reducible refine below_then (by with_reducible assumption) ?_ ?_) | go_size))⟩
       ·obtain rfl : k = l.length := by omega
        have e1 := Lib.hid (show arePl n l = true by rw [HK.out.2, List.drop_eq_nil_of_le (Nat.le_refl _)]; rfl)
        go_wp2
        go_ret
        exact ⟨ret_bool e1.out.symm, hb⟩
   ·have e0 := Lib.hid (arePl_first (n := n) hx h2)
    clear hx hy h
    go_in
    go_wp2
    go_ret
    exact ⟨ret_bool e0.out.symm, Below.refl _ _⟩
  ·have e0 := Lib.hid (arePl_n h1)
   clear hx hy h
   go_in
   go_wp2
   go_ret
   exact ⟨ret_bool e0.out.symm, Below.refl _ _⟩
 ·have e0 := Lib.hid (arePl_0 (n := n) h0)
  have h1 : l.length = 0 := by omega
  rw [h1]
  clear h h0 h1
  go_in
  go_wp2
  go_ret
  exact ⟨ret_bool e0.out.symm, Below.refl _ _⟩
set_option maxRecDepth 100000 in
theorem impl_GoodChange {c : ByteArray} {n : Int} {w : World} (hz : c.size ≤ 16777216) :
  Calls Tryz.prog 215 #[.int .i64 n, .string c] w fun e w' => e = .returned (.bool (goodChange n c)) ∧ Below w.heap.size w w' := by
 rcases h1 : inB n 3 8
 ·have e0 := Lib.hid (goodChange_stage (c := c) h1)
  go_in
  go_wp2_with (first | (go_at_call 225; refine (impl_isStage _ _).mono ?_; rintro e w' ⟨rfl, rfl⟩))
  go_ret
  exact ⟨ret_bool e0.out.symm, Below.refl _ _⟩
 have hn3 := inB_t h1
 rcases h6 : isDash c
 ·have e0 := Lib.hid (good_impl hn3 h6)
  have h7 : (c.toList == [45]) = false := h6
  rcases hv : validD c
  ·have e1 := Lib.hid (show goodChange n c = false by rw [e0.out, hv]; rfl)
   go_in
   go_wp2_with (first | (go_at_call 225; refine (impl_isStage _ _).mono ?_; rintro e w' ⟨rfl, rfl⟩) | (go_at_call 246; refine (impl_places hz).mono ?_; rintro e w1 ⟨A1, c1, rfl, ho1, hb1⟩; have hz1 : (plR c).length ≤ 16777216 := by (rw [plR_f hv]; decide)))
   go_ret
   exact ⟨ret_bool e1.out.symm, hb1⟩
  ·have hva := valid_at hv
   have hpl := plR_t hv
   have hz1 : (plR c).length ≤ 16777216 := by rw [hpl, digs_len]; exact hz
   rw [← hpl] at hva
   have e1 := Lib.hid (show goodChange n c = arePl n (plR c) by rw [e0.out, hv, hpl]; rfl)
   clear hpl
   go_in
   go_wp2_with (first | (go_at_call 225; refine (impl_isStage _ _).mono ?_; rintro e w' ⟨rfl, rfl⟩) | (go_at_call 246; refine (impl_places hz).mono ?_; rintro e w1 ⟨A1, c1, rfl, ho1, hb1⟩) | (go_at_call 247; refine (impl_arePlaces rfl ho1.recs hz1 hn3 hva).mono ?_; rintro e w2 ⟨rfl, hb2⟩))
   go_ret
   exact ⟨ret_bool e1.out.symm, below_go hb1 hb2⟩
 ·have e0 := Lib.hid (goodChange_dash h1 (dash_size hn3.1 h6) h6)
  have h7 : (c.toList == [45]) = true := h6
  go_in
  go_wp2_with (first | (go_at_call 225; refine (impl_isStage _ _).mono ?_; rintro e w' ⟨rfl, rfl⟩))
  go_ret
  exact ⟨ret_bool e0.out.symm, Below.refl _ _⟩
end Go.Proofs.YtidolgonmimicaaGreat
namespace Go.Proofs.YtidolgonmimicaaGreat
open Go.ChangeShapes Go.WideShapes Go.ChangeAt Go.RowKit Go.Deep
theorem impl_placesOf {c : ByteArray} {w : World} (hz : c.size ≤ 16777216) (hg : isDash c = true ∨ validD c = true) :
  Calls Tryz.prog 264 #[.string c] w fun e w' => ∃ A' c', e = .returned (.slice A' (plsOf c).length c') ∧
   Owned intE 1 3 w' w.heap.size A' (plsOf c).length c' (plsOf c) ∧ Below w.heap.size w w' := by
 rcases h6 : isDash c
 ·have h7 : (c.toList == [45]) = false := h6
  have hv : validD c = true := by rcases hg with h | h; rw [h6] at h; cases h; exact h
  have e0 := Lib.hid (plsOf_digs h6)
  have e1 := Lib.hid (plR_t hv)
  go_in
  go_wp2_with (first | (go_at_call 246; refine (impl_places hz).mono ?_; rintro e w1 ⟨A1, c1, rfl, ho1, hb1⟩))
  go_ret
  rw [e0.out, ← e1.out]
  exact ⟨_, _, rfl, ho1, hb1⟩
 ·have h7 : (c.toList == [45]) = true := h6
  have e0 := Lib.hid (plsOf_dash h6)
  go_in
  go_wp2
  go_ret
  rw [e0.out]
  exact ⟨_, _, rfl, Owned.empty intE_len _ _ (by simp), by (repeat' (first | (with_reducible exact Below.refl _ _) | (with_reducible assumption) | (with_reducible refine below_drewN ?_ _) | (with_reducible refine Below.drew ?_) | (with_reducible refine below_alloc ?_ _) | (with_reducible refine Below.alloc ?_ ?_ _) | (with_reducible refine Below.setCell ?_ ?_ _) | (with_reducible refine below_go ?_ (by with_reducible assumption)) | (with_reducible refine below_then (by with_reducible assumption) ?_ ?_) | go_size))⟩
def hasI (l : List Int) (p : Int) : Bool := l.contains p
theorem slices_IndexInt {A : Option Addr} {N c : Nat} {l : List Int} {p : Int} {w : World} (hN : l.length = N) (h : Ints w A l) (hz : N ≤ 16777216) :
  Calls Tryz.prog 266 #[.slice A N c, .int .i64 p] w fun e w' => ∃ r : Int, e = .returned (.int .i64 r) ∧ decide (0 ≤ r) = hasI l p ∧ w = w' := by
 subst hN
 go_in
 go_wp2
 go_loopw [8] (fun i wr => ∃ k : Nat, k ≤ l.length ∧ i = .int .i64 k ∧ Hid (hasI l p = (l.drop k).contains p) ∧ w = wr) (fun i _ => l.length - (intOf i).toNat)
 case atStart => exact ⟨0, Nat.zero_le _, rfl, Lib.hid rfl, rfl⟩
 case round =>
  obtain ⟨k, hk, rfl, HK, rfl⟩ := hrel
  by_cases hlt : k < l.length
  ·obtain ⟨b3, o3, y3, rfl, hbb3, hy3, hc3⟩ := h.at_int hlt
   have HD := Lib.hid (show l.drop k = y3 :: l.drop (k + 1) by rw [List.drop_eq_getElem_cons hlt]; congr 1; rw [List.getElem?_eq_getElem hlt] at hy3; injection hy3)
   clear hy3
   rcases he : (p == y3)
   ·have e1 := Lib.hid (show hasI l p = (l.drop (k + 1)).contains p by rw [HK.out, HD.out, List.contains_cons, he]; rfl)
    go_wp2
    go_roundw
    case rel => exact ⟨k + 1, by omega, by go_num, e1, trivial⟩
    case measure => simp [intOf]; omega
   ·have e1 := Lib.hid (show hasI l p = true by rw [HK.out, HD.out, List.contains_cons, he]; rfl)
    go_wp2
    go_ret
    exact ⟨(k : Int), rfl, by rw [e1.out]; simp, rfl⟩
  ·have e1 := Lib.hid (show hasI l p = false by rw [HK.out, List.drop_eq_nil_of_le (by omega)]; rfl)
   go_wp2
   go_ret
   exact ⟨-1, rfl, by rw [e1.out]; rfl, rfl⟩
theorem slices_ContainsInt {A : Option Addr} {N c : Nat} {l : List Int} {p : Int} {w : World} (hN : l.length = N) (h : Ints w A l) (hz : N ≤ 16777216) :
  Calls Tryz.prog 265 #[.slice A N c, .int .i64 p] w fun e w' => e = .returned (.bool (hasI l p)) ∧ w = w' := by
 go_in
 go_wp2_with (first | (go_at_call 266; refine (slices_IndexInt hN h hz).mono ?_; rintro e w' ⟨r, rfl, hr, rfl⟩))
 go_ret
 exact ⟨ret_bool rfl, rfl⟩
set_option maxRecDepth 100000 in
theorem impl_swapsOf {c : ByteArray} {n : Nat} {w : World} (hz : c.size ≤ 16777216) (hn : n ≤ 8) (hg : isDash c = true ∨ validD c = true) :
  Calls Tryz.prog 261 #[.int .i64 n, .string c] w fun e w' => ∃ A' c', e = .returned (.slice A' (swaps n c).length c') ∧
   Owned intE 1 3 w' w.heap.size A' (swaps n c).length c' (swaps n c) ∧ Below w.heap.size w w' := by
 have hpz : (plsOf c).length ≤ 16777216 := by
  rcases h6 : isDash c
  ·rw [plsOf_digs h6, digs_len]; exact hz
  ·rw [plsOf_dash h6]; decide
 go_in
 go_wp2_with (first | (go_at_call 264; refine (impl_placesOf hz hg).mono ?_; rintro e w1 ⟨A1, c1, rfl, ho1, hb1⟩; have hst := ho1.recs; have hsz1 := hb1.size; clear ho1))
 go_loopw [6, 7] (fun v i wr => ∃ (k : Nat) (A' : Option Addr) (m c' : Nat) (l : List Int), k ≤ n + 1 ∧ i = .int .i64 (k + 1 : Nat) ∧ v = .slice A' m c' ∧ Hid (swaps n c = l ++ sws (stays c) n (k + 1)) ∧ m ≤ k ∧ Owned intE 1 3 wr w1.heap.size A' m c' l ∧ Below w1.heap.size w1 wr) (fun _ i _ => n + 2 - (intOf i).toNat)
 case atStart => exact ⟨0, _, _, _, [], by omega, rfl, rfl, Lib.hid rfl, by omega, Owned.empty intE_len _ _ (by simp), by (repeat' (first | (with_reducible exact Below.refl _ _) | (with_reducible assumption) | (with_reducible refine below_drewN ?_ _) | (with_reducible refine Below.drew ?_) | (with_reducible refine below_alloc ?_ _) | (with_reducible refine Below.alloc ?_ ?_ _) | (with_reducible refine Below.setCell ?_ ?_ _) | (with_reducible refine below_go ?_ (by with_reducible assumption)) | (with_reducible refine below_then (by with_reducible assumption) ?_ ?_) | go_size))⟩
 case round =>
  obtain ⟨k, A', m, c', l, hk, rfl, rfl, HK, hmk, ho, hb⟩ := hrel
  have HO := Lib.hid ho
  have hsz := hb.size
  have hS := Lib.hid (hst.below hb (Nat.le_refl _))
  clear ho hst
  by_cases hlt : k + 1 < n
  ·have hpc : Hid (hasI (plsOf c) ((k : Int) + 1) = stays c ((k : Int) + 1)) := Lib.hid (pls_has (c := c) (p := (k : Int) + 1) (by omega))
   rcases hs : stays c ((k : Int) + 1)
   ·have e1 := Lib.hid (sws_swap hlt hs)
    have hs2 : hasI (plsOf c) ((k : Int) + 1) = false := hpc.out.trans hs
    go_wp2_with (first | (go_at_call 265; refine (slices_ContainsInt rfl hS.out hpz).mono ?_; rintro e w' ⟨rfl, rfl⟩) | (at_builtin; go_must ((refine wpList_append_rec Tryz.elInt rfl (.tmp 20) (.tmp 22) rfl rfl (HO.out.alloc _) ((k : Int) + 1) rfl (Box.at_ _ [.int .i64 ((k : Int) + 1)] _ ?_) (intE_one _) ?_ (by decide) ?_ ?_; (focus (first | omega | (simp only [World.size_alloc]; done) | (simp only [World.size_alloc]; omega) | (simp; done) | (simp; omega))); (focus (first | omega | (simp only [World.size_alloc]; done) | (simp only [World.size_alloc]; omega) | (simp; done) | (simp; omega))); (focus (first | omega | (simp only [World.size_alloc]; done) | (simp only [World.size_alloc]; omega) | (simp; done) | (simp; omega))); intro A2 c2 w2 ho2 hg2 hb2))))
    go_roundw
    case rel => exact ⟨k + 2, A2, m + 1, c2, l ++ [((k + 1 : Nat) : Int)], by omega, by go_num, by go_num, Lib.hid (by rw [HK.out, e1.out, List.append_assoc]; rfl), by omega, ho2, (hb.alloc hsz _).trans hb2⟩
    case measure => simp [intOf]; omega
   ·have e1 := Lib.hid (sws_stay hlt hs)
    have hs2 : hasI (plsOf c) ((k : Int) + 1) = true := hpc.out.trans hs
    go_wp2_with (first | (go_at_call 265; refine (slices_ContainsInt rfl hS.out hpz).mono ?_; rintro e w' ⟨rfl, rfl⟩))
    go_roundw
    case rel => exact ⟨k + 1, A', m, c', l, by omega, by go_num, rfl, Lib.hid (by rw [HK.out, e1.out]), by omega, HO.out, by (repeat' (first | (with_reducible exact Below.refl _ _) | (with_reducible assumption) | (with_reducible refine below_drewN ?_ _) | (with_reducible refine Below.drew ?_) | (with_reducible refine below_alloc ?_ _) | (with_reducible refine Below.alloc ?_ ?_ _) | (with_reducible refine Below.setCell ?_ ?_ _) | (with_reducible refine below_go ?_ (by with_reducible assumption)) | (with_reducible refine below_then (by with_reducible assumption) ?_ ?_) | go_size))⟩
    case measure => simp [intOf]; omega
  ·have e1 := Lib.hid (show swaps n c = l by rw [HK.out, sws_end hlt, List.append_nil])
   have hl := HO.out.len
   go_wp2
   go_ret
   rw [e1.out, hl]
   exact ⟨_, _, rfl, HO.out.base_le hsz1, below_go hb1 hb⟩
def signR (n : Int) (c : ByteArray) : Bool := goodChange n c && evenSwaps n.toNat c
end Go.Proofs.YtidolgonmimicaaGreat
namespace Go.Proofs.YtidolgonmimicaaGreat
open Go.ChangeShapes Go.WideShapes Go.ChangeAt Go.RowKit Go.Deep
theorem spec_l1Rounds {n : Nat} {w : World} (hn : n ≤ 8) :
  Calls Tryz.prog 90 #[.int .i64 n] w fun e w' => e = .returned (.string (roundsS n)) ∧ w = w' := by
 go_in
 go_wp2
 go_ret
 exact ⟨rfl, rfl⟩
theorem impl_rounds {n : Nat} {w : World} (hn : n ≤ 8) :
  Calls Tryz.prog 105 #[.int .i64 n] w fun e w' => e = .returned (.string (roundsS n)) ∧ w = w' := by
 go_in
 go_wp2
 go_ret
 exact ⟨rfl, rfl⟩
set_option maxRecDepth 100000 in
theorem spec_l2Row {c : ByteArray} {n : Nat} {w : World} (hz : c.size ≤ 16777216) (hn : n ≤ 8) :
  Calls Tryz.prog 253 #[.int .i64 n, .string c] w fun e w' => e = .returned (.string (chRow n c)) ∧ Below w.heap.size w w' := by
 have hcv := run_bytes (P := Tryz.prog) (src := 9) (dst := 22) (e := 5) (roundsS n) Tryz.underlying9 Tryz.underlying22 Tryz.underlying5
 have hrs := rounds_size n (by omega)
 rw [hrs] at hcv
 have hE : Hid (chRow n c = strOfNums (rowV n (swaps n c))) := Lib.hid rfl
 go_in
 go_wp2_with (first | (go_at_call 90; refine (spec_l1Rounds hn).mono ?_; rintro e w' ⟨rfl, rfl⟩))
 have hr0 := bytesW_row w 5 (roundsS n)
 have hb0 := bytesW_below w 5 (roundsS n)
 rw [rowV_nil n (by omega)] at hr0
 clear hcv
 generalize grownCap w n 0 5 = cc
 go_loopw [6] (fun i wr => ∃ (k : Nat) (l : List Int), k ≤ n + 1 ∧ i = .int .i64 (k + 1 : Nat) ∧ Hid (swaps n c = l ++ sws (stays c) n (k + 1)) ∧ Hid (∀ x ∈ l, x + 2 ≤ ((k + 1 : Nat) : Int)) ∧ Hid (BRow wr w.heap.size (rowV n l)) ∧ Below w.heap.size w wr) (fun i _ => n + 2 - (intOf i).toNat)
 case atStart => exact ⟨0, [], by omega, rfl, Lib.hid rfl, Lib.hid (fun x hx => by cases hx), Lib.hid hr0, hb0⟩
 case round =>
  obtain ⟨k, l, hk, rfl, HK, HL, HR, hb⟩ := hrel
  by_cases hlt : k + 1 < n
  ·have hI : I64 ((k : Int) + 1) := by unfold I64; omega
   rcases hs : stays c ((k : Int) + 1)
   ·have e1 := Lib.hid (sws_swap hlt hs)
    have hrow := Lib.hid (rowV_step (p := k + 1) (by omega) hlt HL.out)
    have hlen := rowV_len n l
    have c1 := HR.out.2.1 k _ (List.getElem?_eq_getElem (by omega))
    have c2 := HR.out.2.1 (k + 1) _ (List.getElem?_eq_getElem (by omega))
    have f1 := HR.out.2.2 k (by omega)
    have f2 := HR.out.2.2 (k + 1) (by omega)
    have hR2 := Lib.hid ((HR.out.set (k := k) (by omega) (49 + ((k + 1 : Nat) : Int))).set (k := k + 1) (by rw [List.length_set]; omega) (48 + ((k + 1 : Nat) : Int)))
    go_wp2_with (first | (go_at_call 262; refine (spec_l2Stays hz hI).mono ?_; rintro e w' ⟨rfl, rfl⟩))
    go_roundw
    case rel => exact ⟨k + 2, l ++ [((k + 1 : Nat) : Int)], by omega, by go_num, Lib.hid (by rw [HK.out, e1.out, List.append_assoc]; rfl), Lib.hid (fun x hx => by
      rcases List.mem_append.1 hx with hx | hx
      ·have := HL.out x hx; omega
      ·rw [List.mem_singleton.1 hx]; omega), Lib.hid (by rw [hrow.out]; exact hR2.out), by (repeat' (first | (with_reducible exact Below.refl _ _) | (with_reducible assumption) | (with_reducible refine below_drewN ?_ _) | (with_reducible refine Below.drew ?_) | (with_reducible refine below_alloc ?_ _) | (with_reducible refine Below.alloc ?_ ?_ _) | (with_reducible refine Below.setCell ?_ ?_ _) | (with_reducible refine below_go ?_ (by with_reducible assumption)) | (with_reducible refine below_then (by with_reducible assumption) ?_ ?_) | go_size))⟩
    case measure => simp [intOf]; omega
   ·have e1 := Lib.hid (sws_stay hlt hs)
    go_wp2_with (first | (go_at_call 262; refine (spec_l2Stays hz hI).mono ?_; rintro e w' ⟨rfl, rfl⟩))
    go_roundw
    case rel => exact ⟨k + 1, l, by omega, by go_num, Lib.hid (by rw [HK.out, e1.out]), Lib.hid (fun x hx => by have := HL.out x hx; omega), HR, hb⟩
    case measure => simp [intOf]; omega
  ·have e1 := Lib.hid (show swaps n c = l by rw [HK.out, sws_end hlt, List.append_nil])
   have ht := HR.out.text (P := Tryz.prog) (src := 22) (e := 5) (dst := 9) n cc (rowV_len n l) Tryz.underlying22 Tryz.underlying5 Tryz.underlying9
   go_wp2
   go_ret
   rw [hE.out, e1.out]
   exact ⟨rfl, hb⟩
end Go.Proofs.YtidolgonmimicaaGreat
namespace Go.Proofs.YtidolgonmimicaaGreat
open Go.ChangeShapes Go.WideShapes Go.ChangeAt Go.RowKit Go.Deep
set_option maxRecDepth 100000 in
theorem impl_changeRow {c : ByteArray} {n : Nat} {w : World} (hz : c.size ≤ 16777216) (hn : n ≤ 8) (hg : isDash c = true ∨ validD c = true) :
  Calls Tryz.prog 252 #[.int .i64 n, .string c] w fun e w' => e = .returned (.string (chRow n c)) ∧ Below w.heap.size w w' := by
 have hcv := run_bytes (P := Tryz.prog) (src := 9) (dst := 22) (e := 5) (roundsS n) Tryz.underlying9 Tryz.underlying22 Tryz.underlying5
 have hrs := rounds_size n (by omega)
 rw [hrs] at hcv
 have hE : Hid (chRow n c = strOfNums (rowV n (swaps n c))) := Lib.hid rfl
 have hlen8 : (swaps n c).length ≤ 8 := by
  have := sws_len (stays c) n 1
  rw [swaps]; omega
 have hin : Hid (∀ x ∈ swaps n c, ((1 : Nat) : Int) ≤ x ∧ x < n) := Lib.hid (sws_in (stays c) n 1)
 have hfar : Hid ((swaps n c).Pairwise fun x y => x + 2 ≤ y) := Lib.hid (sws_far (stays c) n 1)
 have hr0 := Lib.hid (bytesW_row w 5 (roundsS n))
 have hb0 := bytesW_below w 5 (roundsS n)
 rw [rowV_nil n (by omega)] at hr0
 have hs0 := bytesW_size w 5 (roundsS n)
 go_in
 go_wp2_with (first | (go_at_call 105; refine (impl_rounds hn).mono ?_; rintro e w' ⟨rfl, rfl⟩) | (go_at_call 261; refine (impl_swapsOf hz hn hg).mono ?_; rintro e w1 ⟨A1, c1, rfl, ho1, hb1⟩))
 clear hcv
 generalize grownCap w n 0 5 = cc
 have hr1 := Lib.hid (hr0.out.up hb1)
 have hb01 := below_go hb0 hb1
 have hs1 := hb1.size
 rw [hs0] at ho1
 have HO1 := Lib.hid ho1
 clear ho1 hr0
 generalize hsw : swaps n c = sw at *
 clear hsw
 go_loopw [15] (fun i wr => ∃ k : Nat, k ≤ sw.length ∧ i = .int .i64 k ∧ Hid (BRow wr w.heap.size (rowV n (sw.take k))) ∧ Hid (Owned intE 1 3 wr (w.heap.size + 1) A1 sw.length c1 sw) ∧ Below w.heap.size w wr) (fun i _ => sw.length - (intOf i).toNat)
 case atStart => exact ⟨0, Nat.zero_le _, rfl, hr1, HO1, hb01⟩
 case round =>
  obtain ⟨k, hk, rfl, HR, HO, hb⟩ := hrel
  by_cases hlt : k < sw.length
  ·obtain ⟨b3, o3, y, rfl, hbb, hy, hcy⟩ := HO.out.recs.at_int hlt
   have hyin := hin.out y (List.mem_of_getElem? hy)
   obtain ⟨q, rfl⟩ : ∃ q : Nat, y = (q : Int) + 1 := ⟨(y - 1).toNat, by omega⟩
   have hq : q + 1 < n := by omega
   have hfr : ∀ x ∈ sw.take k, x + 2 ≤ ((q + 1 : Nat) : Int) := take_far hfar.out hy
   have hpl := rowV_plain hq hfr
   have d1 := HR.out.2.1 q _ hpl.1
   have d2 := HR.out.2.1 (q + 1) _ hpl.2
   have hlen := rowV_len n (sw.take k)
   have f1 := HR.out.2.2 q (by omega)
   have f2 := HR.out.2.2 (q + 1) (by omega)
   have htk := Lib.hid (show sw.take (k + 1) = sw.take k ++ [((q + 1 : Nat) : Int)] from take_succ_some hy)
   have hrow := Lib.hid (rowV_step (p := q + 1) (by omega) hq hfr)
   have hR2 := Lib.hid ((HR.out.set (k := q) (by omega) (49 + ((q : Int) + 1))).set (k := q + 1) (by rw [List.length_set]; omega) (49 + (q : Int)))
   have hO2 : Hid (Owned intE 1 3 ((wr.setCell ⟨w.heap.size, q, none⟩ (.int .u8 (49 + ((q : Int) + 1)))).setCell ⟨w.heap.size, q + 1, none⟩ (.int .u8 (49 + (q : Int)))) (w.heap.size + 1) (some ⟨b3, o3, none⟩) sw.length c1 sw) :=
    Lib.hid ((HO.out.past (only_set _ _) (Nat.lt_succ_self _)).past (only_set _ _) (Nat.lt_succ_self _))
   clear hpl hfr hy hyin
   go_wp2
   go_region
   all_goals go_wp2
   all_goals go_roundw
   case rel => exact ⟨k + 1, by omega, by go_num, Lib.hid (by rw [htk.out, hrow.out, show (48 + ((q + 1 : Nat) : Int)) = 49 + (q : Int) by omega]; exact hR2.out), hO2, by (repeat' (first | (with_reducible exact Below.refl _ _) | (with_reducible assumption) | (with_reducible refine below_drewN ?_ _) | (with_reducible refine Below.drew ?_) | (with_reducible refine below_alloc ?_ _) | (with_reducible refine Below.alloc ?_ ?_ _) | (with_reducible refine Below.setCell ?_ ?_ _) | (with_reducible refine below_go ?_ (by with_reducible assumption)) | (with_reducible refine below_then (by with_reducible assumption) ?_ ?_) | go_size))⟩
   case measure => simp [intOf]; omega
  ·obtain rfl : k = sw.length := by omega
   have e1 := Lib.hid (show sw.take sw.length = sw from List.take_of_length_le (Nat.le_refl _))
   have ht := HR.out.text (P := Tryz.prog) (src := 22) (e := 5) (dst := 9) n cc (rowV_len n _) Tryz.underlying22 Tryz.underlying5 Tryz.underlying9
   rw [e1.out, ← hE.out] at ht
   go_wp2
   go_ret
   exact ⟨rfl, hb⟩
end Go.Proofs.YtidolgonmimicaaGreat
namespace Go.Proofs.YtidolgonmimicaaGreat
open Go.ChangeShapes Go.WideShapes Go.ChangeAt Go.RowKit Go.Deep
set_option maxRecDepth 100000 in
theorem impl_times {a b : ByteArray} {w : World} (ha : a.size ≤ 16777216) (hz : b.size ≤ 16777216) (hf : fits a b) :
  Calls Tryz.prog 123 #[.string a, .string b] w fun e w' => e = .returned (.string (timesS a b)) ∧ Below w.heap.size w w' := by
 have hba := PlainAid.get_bt a
 have hbb := PlainAid.get_bt b
 have hmk := run_make_rec (e := byteE) Tryz.elU8 0 rfl b.size (by omega) (by decide)
 have hE : Hid (timesS a b = strOfNums (timesL a b)) := Lib.hid rfl
 have HF : Hid (fits a b) := hf
 have hr0 : Hid (BRow (w.alloc (.cells (madeCells (byteE 0).toArray (b.size * 1)) 5)) w.heap.size (List.replicate b.size 0)) := Lib.hid (BRow.of_owned (Owned.made (e := byteE) (s := 1) byteE_len w 5 0 b.size (by omega) (Nat.le_refl _)))
 have hb0 : Below w.heap.size w (w.alloc (.cells (madeCells (byteE 0).toArray (b.size * 1)) 5)) := by (repeat' (first | (with_reducible exact Below.refl _ _) | (with_reducible assumption) | (with_reducible refine below_drewN ?_ _) | (with_reducible refine Below.drew ?_) | (with_reducible refine below_alloc ?_ _) | (with_reducible refine Below.alloc ?_ ?_ _) | (with_reducible refine Below.setCell ?_ ?_ _) | (with_reducible refine below_go ?_ (by with_reducible assumption)) | (with_reducible refine below_then (by with_reducible assumption) ?_ ?_) | go_size))
 clear hf
 rw [Nat.mul_one] at hr0 hb0 hmk
 go_in
 go_wp2
 clear hmk
 go_loopw [12] (fun i wr => ∃ (k : Nat) (m : List Int), k ≤ b.size ∧ i = .int .i64 k ∧ Hid (∀ j, j < k → m[j]? = (timesL a b)[j]?) ∧ m.length = b.size ∧ Hid (BRow wr w.heap.size m) ∧ Below w.heap.size w wr) (fun i _ => b.size - (intOf i).toNat)
 case atStart => exact ⟨0, _, Nat.zero_le _, rfl, Lib.hid (fun j hj => absurd hj (by omega)), by simp, hr0, hb0⟩
 case round =>
  obtain ⟨k, m, hk, rfl, HM, hml, HR, hb⟩ := hrel
  by_cases hlt : k < b.size
  ·have hr := HF.out k hlt
   obtain ⟨q, hq⟩ : ∃ q : Nat, PlainAid.bt b k = (q : Int) + 49 := ⟨(PlainAid.bt b k - 49).toNat, by omega⟩
   have hqa : q < a.size := by omega
   have hb255 := PlainAid.bt_le b k
   have hq6 : q % 256 = q := by omega
   have hq1 : PlainAid.bt b k - 49 = (q : Int) := by omega
   have hq2 : (PlainAid.bt b k - 49).toNat = q := by omega
   have E := Lib.hid (show (timesL a b)[k]? = some (PlainAid.bt a q) by rw [timesL_at hlt, hq2])
   have d1 := HR.out.2.1 k _ (List.getElem?_eq_getElem (by omega))
   have f1 := HR.out.2.2 k (by omega)
   have hR2 := Lib.hid (HR.out.set (k := k) (by omega) (PlainAid.bt a q))
   go_wp2
   go_roundw
   case rel => exact ⟨k + 1, m.set k (PlainAid.bt a q), by omega, by go_num, Lib.hid (upto_set HM.out E.out (by omega)), by rw [List.length_set]; exact hml, hR2, by (repeat' (first | (with_reducible exact Below.refl _ _) | (with_reducible assumption) | (with_reducible refine below_drewN ?_ _) | (with_reducible refine Below.drew ?_) | (with_reducible refine below_alloc ?_ _) | (with_reducible refine Below.alloc ?_ ?_ _) | (with_reducible refine Below.setCell ?_ ?_ _) | (with_reducible refine below_go ?_ (by with_reducible assumption)) | (with_reducible refine below_then (by with_reducible assumption) ?_ ?_) | go_size))⟩
   case measure => simp [intOf]; omega
  ·obtain rfl : k = b.size := by omega
   have e1 : m = timesL a b := eq_of_upto (fun j hj => HM.out j hj) hml (timesL_len a b)
   have ht := HR.out.text (P := Tryz.prog) (src := 22) (e := 5) (dst := 9) b.size b.size hml Tryz.underlying22 Tryz.underlying5 Tryz.underlying9
   rw [e1, ← hE.out] at ht
   go_wp2
   go_ret
   exact ⟨rfl, hb⟩
theorem spec_l1At {b : ByteArray} {k : Nat} {w : World} (hk : k < b.size) (hz : b.size ≤ 16777216) (hlo : 48 ≤ PlainAid.bt b k) :
  Calls Tryz.prog 193 #[.string b, .int .i64 ((k : Int) + 1)] w fun e w' => e = .returned (.int .i64 (PlainAid.bt b k - 48)) ∧ w = w' := by
 have hbb := PlainAid.get_bt b
 have hn1 := PlainAid.bt_le b k
 go_in
 go_wp2
 go_ret
 exact ⟨rfl, rfl⟩
set_option maxRecDepth 100000 in
theorem spec_l1Times {a b : ByteArray} {w : World} (ha : a.size ≤ 16777216) (hz : b.size ≤ 16777216) (hf : fits a b) :
  Calls Tryz.prog 118 #[.string a, .string b] w fun e w' => e = .returned (.string (timesS a b)) ∧ w = w' := by
 have hE : Hid (timesS a b = strOfNums (timesL a b)) := Lib.hid rfl
 have HF : Hid (fits a b) := hf
 clear hf
 go_in
 go_wp2
 go_loopw [5, 6] (fun v i wr => ∃ (k : Nat) (s : ByteArray), k ≤ b.size ∧ i = .int .i64 (k + 1 : Nat) ∧ v = .string s ∧ s.size = k ∧ Hid (s = strOfNums ((timesL a b).take k)) ∧ w = wr) (fun _ i _ => b.size + 1 - (intOf i).toNat)
 case atStart => exact ⟨0, _, Nat.zero_le _, rfl, rfl, rfl, Lib.hid rfl, rfl⟩
 case round =>
  obtain ⟨k, s, hk, rfl, rfl, hsk, HS, rfl⟩ := hrel
  by_cases hlt : k < b.size
  ·have hr := HF.out k hlt
   obtain ⟨q, hq⟩ : ∃ q : Nat, PlainAid.bt b k = (q : Int) + 49 := ⟨(PlainAid.bt b k - 49).toNat, by omega⟩
   have hqa : q < a.size := by omega
   have hq2 : (PlainAid.bt b k - 49).toNat = q := by omega
   have hq3 : PlainAid.bt b k - 48 = (q : Int) + 1 := by omega
   have E := Lib.hid (show (timesL a b)[k]? = some (PlainAid.bt a q) by rw [timesL_at hlt, hq2])
   have hx := one_byte hqa
   have hxs : (a.extract q (q + 1)).size = 1 := by rw [hx]; rfl
   have hsz : (s ++ a.extract q (q + 1)).size = k + 1 := by rw [ByteArray.size_append, hxs, hsk]
   have HS2 := Lib.hid (show s ++ a.extract q (q + 1) = strOfNums ((timesL a b).take (k + 1)) by rw [HS.out, hx, take_succ_some E.out, strOf_append])
   have h48 : 48 ≤ PlainAid.bt b k := by omega
   clear hx
   go_wp2_with (first | (go_at_call 193; refine (spec_l1At hlt hz h48).mono ?_; rw [hq3]; rintro e w' ⟨rfl, rfl⟩))
   go_roundw
   case rel => exact ⟨k + 1, s ++ a.extract q (q + 1), by omega, by go_num, rfl, hsz, HS2, trivial⟩
   case measure => simp [intOf]; omega
  ·obtain rfl : k = b.size := by omega
   have e1 := Lib.hid (show s = timesS a b by rw [HS.out, hE.out, List.take_of_length_le (by rw [timesL_len]; exact Nat.le_refl _)])
   go_wp2
   go_ret
   rw [e1.out]
   exact ⟨rfl, rfl⟩
end Go.Proofs.YtidolgonmimicaaGreat
namespace Go.Proofs.YtidolgonmimicaaGreat
open Go.ChangeShapes Go.WideShapes Go.ChangeAt Go.RowKit Go.Deep
theorem impl_apply {a c : ByteArray} {w : World} (ha : a.size ≤ 8) (hz : c.size ≤ 16777216) (hg : isDash c = true ∨ validD c = true) :
  Calls Tryz.prog 226 #[.string a, .string c] w fun e w' => e = .returned (.string (applyR a c)) ∧ Below w.heap.size w w' := by
 have ha2 : a.size ≤ 16777216 := by omega
 have hcs : (chRow a.size c).size ≤ 16777216 := by rw [chRow_size]; omega
 have hft := chRow_fits ha c
 go_in
 go_wp2_with (first | (go_at_call 252; refine (impl_changeRow hz ha hg).mono ?_; rintro e w1 ⟨rfl, hb1⟩) | (go_at_call 123; refine (impl_times ha2 hcs hft).mono ?_; rintro e w2 ⟨rfl, hb2⟩))
 go_ret
 exact ⟨rfl, below_go hb1 hb2⟩
theorem spec_l2Apply {a c : ByteArray} {w : World} (ha : a.size ≤ 8) (hz : c.size ≤ 16777216) :
  Calls Tryz.prog 227 #[.string a, .string c] w fun e w' => e = .returned (.string (applyR a c)) ∧ Below w.heap.size w w' := by
 have ha2 : a.size ≤ 16777216 := by omega
 have hcs : (chRow a.size c).size ≤ 16777216 := by rw [chRow_size]; omega
 have hft := chRow_fits ha c
 go_in
 go_wp2_with (first | (go_at_call 253; refine (spec_l2Row hz ha).mono ?_; rintro e w1 ⟨rfl, hb1⟩) | (go_at_call 118; refine (spec_l1Times ha2 hcs hft).mono ?_; rintro e w2 ⟨rfl, rfl⟩))
 go_ret
 exact ⟨rfl, hb1⟩
set_option maxRecDepth 100000 in
theorem impl_rowsUnder {A : Option Addr} {N c : Nat} {a : ByteArray} {l : List ByteArray} {w : World} (ha : a.size ≤ 8) (hN : l.length = N) (h : Strs w A l) (hz : N ≤ 16000000) (hs : ∀ s ∈ l, s.size ≤ 16777216) (hg : ∀ s ∈ l, isDash s = true ∨ validD s = true) :
  Calls Tryz.prog 191 #[.string a, .slice A N c] w fun e w' => ∃ A' c', e = .returned (.slice A' (N + 1) c') ∧
   Owned strE 1 9 w' w.heap.size A' (N + 1) c' (rowsL a l (N + 1)) ∧ Below w.heap.size w w' := by
 subst hN
 have HS := Lib.hid hs
 have HGd := Lib.hid hg
 have h1 : Hid (Owned strE 1 9 (w.alloc (.cells #[.string a] 9)) w.heap.size (some ⟨w.heap.size, 0, none⟩) 1 1 (rowsL a l 1)) := Lib.hid ⟨strE_len, by simp [rowsL], by simpa [rowsL, rAt, strE] using World.ownsRow_lit (e := 9) (base := w.heap.size) (size := 1) w #[.string a] 1 (Nat.le_refl _) (by decide) (by simp)⟩
 clear hs hg
 go_in
 go_wp2
 go_loopw [0, 5, 12] (fun r v i wr => ∃ (k : Nat) (A' : Option Addr) (m c' : Nat), k ≤ l.length ∧ i = .int .i64 k ∧ r = .string (rAt a l k) ∧ v = .slice A' m c' ∧ m = k + 1 ∧ Owned strE 1 9 wr w.heap.size A' m c' (rowsL a l (k + 1)) ∧ Below w.heap.size w wr) (fun _ _ i _ => l.length - (intOf i).toNat)
 case atStart => exact ⟨0, _, _, _, Nat.zero_le _, rfl, rfl, rfl, rfl, h1.out, by (repeat' (first | (with_reducible exact Below.refl _ _) | (with_reducible assumption) | (with_reducible refine below_drewN ?_ _) | (with_reducible refine Below.drew ?_) | (with_reducible refine below_alloc ?_ _) | (with_reducible refine Below.alloc ?_ ?_ _) | (with_reducible refine Below.setCell ?_ ?_ _) | (with_reducible refine below_go ?_ (by with_reducible assumption)) | (with_reducible refine below_then (by with_reducible assumption) ?_ ?_) | go_size))⟩
 case round =>
  obtain ⟨k, A', m, c', hk, rfl, rfl, rfl, rfl, ho, hb⟩ := hrel
  have HO := Lib.hid ho
  have hsz := hb.size
  clear ho
  by_cases hlt : k < l.length
  ·obtain ⟨b1, o1, y, rfl, hbb, hy, hcy⟩ := (h.below hb (Nat.le_refl _)).at_str hlt
   have hys := HS.out y (List.mem_of_getElem? hy)
   have hgy := HGd.out y (List.mem_of_getElem? hy)
   have hra : (rAt a l k).size ≤ 8 := by rw [rAt_size]; exact ha
   have E := Lib.hid (rAt_succ (a := a) hy)
   have HT := Lib.hid (rowsL_succ a l (k + 1))
   clear hy
   go_wp2_with (first | (go_at_call 226; refine (impl_apply hra hys hgy).mono ?_; rw [← E.out]; rintro e w1 ⟨rfl, hb1⟩; have HO1 := Lib.hid (HO.out.up hb1); have hsz1 := hb1.size) | (at_builtin; go_must ((refine wpList_append_rec Tryz.elStr rfl (.tmp 19) (.tmp 21) rfl rfl (HO1.out.alloc _) (rAt a l (k + 1)) rfl (Box.at_ _ [.string (rAt a l (k + 1))] _ ?_) (strE_one _) ?_ (by decide) ?_ ?_; (focus (first | omega | (simp only [World.size_alloc]; done) | (simp only [World.size_alloc]; omega) | (simp; done) | (simp; omega))); (focus (first | omega | (simp only [World.size_alloc]; done) | (simp only [World.size_alloc]; omega) | (simp; done) | (simp; omega))); (focus (first | omega | (simp only [World.size_alloc]; done) | (simp only [World.size_alloc]; omega) | (simp; done) | (simp; omega))); intro A2 c2 w2 ho2 hg2 hb2))))
   go_roundw
   case rel => exact ⟨k + 1, A2, k + 1 + 1, c2, by omega, by go_num, rfl, by go_num, rfl, by rw [HT.out]; exact ho2, ((hb.trans (hb1.mono hsz)).alloc (by omega) _).trans hb2⟩
   case measure => simp [intOf]; omega
  ·obtain rfl : k = l.length := by omega
   go_wp2
   go_ret
   exact ⟨_, _, rfl, HO.out, hb⟩
set_option maxRecDepth 100000 in
theorem spec_l4Lead {A : Option Addr} {N c : Nat} {a : ByteArray} {l : List ByteArray} {w : World} (ha : a.size ≤ 8) (hN : l.length = N) (h : Strs w A l) (hz : N ≤ 16000000) (hs : ∀ s ∈ l, s.size ≤ 16777216) :
  Calls Tryz.prog 192 #[.slice A N c, .string a] w fun e w' => ∃ A' c', e = .returned (.tuple #[.slice A' N c', .string (rAt a l N)]) ∧
   Owned strE 1 9 w' w.heap.size A' N c' (rowsL a l N) ∧ Below w.heap.size w w' := by
 subst hN
 have HS := Lib.hid hs
 clear hs
 go_in
 go_wp2
 go_loopw [6, 7, 13] (fun v r i wr => ∃ (k : Nat) (A' : Option Addr) (m c' : Nat), k ≤ l.length ∧ i = .int .i64 k ∧ r = .string (rAt a l k) ∧ v = .slice A' m c' ∧ m = k ∧ Owned strE 1 9 wr w.heap.size A' m c' (rowsL a l k) ∧ Below w.heap.size w wr) (fun _ _ i _ => l.length - (intOf i).toNat)
 case atStart => exact ⟨0, none, 0, 0, Nat.zero_le _, rfl, rfl, rfl, rfl, Owned.nil strE_len _ _ _, Below.refl _ _⟩
 case round =>
  obtain ⟨k, A', m, c', hk, rfl, rfl, rfl, rfl, ho, hb⟩ := hrel
  have HO := Lib.hid ho
  have hsz := hb.size
  clear ho
  by_cases hlt : m < l.length
  ·obtain ⟨b1, o1, y, rfl, hbb, hy, hcy⟩ := (h.below hb (Nat.le_refl _)).at_str hlt
   have hys := HS.out y (List.mem_of_getElem? hy)
   have hra : (rAt a l m).size ≤ 8 := by rw [rAt_size]; exact ha
   have E := Lib.hid (rAt_succ (a := a) hy)
   have HT := Lib.hid (rowsL_succ a l m)
   clear hy
   go_wp2_with (first | (go_at_call 227; refine (spec_l2Apply hra hys).mono ?_; rw [← E.out]; rintro e w3 ⟨rfl, hb3⟩) | (at_builtin; go_must ((refine wpList_append_rec Tryz.elStr rfl (.tmp 17) (.tmp 19) rfl rfl (HO.out.alloc _) (rAt a l m) rfl (Box.at_ _ [.string (rAt a l m)] _ ?_) (strE_one _) ?_ (by decide) ?_ ?_; (focus (first | omega | (simp only [World.size_alloc]; done) | (simp only [World.size_alloc]; omega) | (simp; done) | (simp; omega))); (focus (first | omega | (simp only [World.size_alloc]; done) | (simp only [World.size_alloc]; omega) | (simp; done) | (simp; omega))); (focus (first | omega | (simp only [World.size_alloc]; done) | (simp only [World.size_alloc]; omega) | (simp; done) | (simp; omega))); intro A2 c2 w2 ho2 hg2 hb2; have hsz2 := hb2.size))))
   go_roundw
   case rel => exact ⟨m + 1, A2, m + 1, c2, by omega, by go_num, rfl, by go_num, rfl, by rw [HT.out]; exact ho2.up hb3, below_go ((hb.alloc hsz _).trans hb2) hb3⟩
   case measure => simp [intOf]; omega
  ·obtain rfl : m = l.length := by omega
   go_wp2
   go_ret2
   exact ⟨_, _, rfl, HO.out, hb⟩
end Go.Proofs.YtidolgonmimicaaGreat
namespace Go.Proofs.YtidolgonmimicaaGreat
open Go.ChangeShapes Go.WideShapes Go.ChangeAt Go.RowKit Go.Deep
set_option maxRecDepth 100000 in
theorem spec_l1Row {s : ByteArray} {w : World} (hz : s.size ≤ 16777216) :
  Calls Tryz.prog 113 #[.string s] w fun e w' => e = .returned (.bool (goodRow s)) ∧ Below w.heap.size w w' := by
 have hb := PlainAid.get_bt s
 rcases h1 : inB s.size 3 8
 ·have e0 := Lib.hid (goodRow_stage h1)
  go_in
  go_wp2_with (first | (go_at_call 81; refine (spec_l1In _ _ _ _).mono ?_; rintro e w' ⟨rfl, rfl⟩))
  go_ret
  exact ⟨ret_bool e0.out.symm, Below.refl _ _⟩
 have hs8 := inB_t h1
 have HG := Lib.hid (goodRow_all h1)
 have HO : Hid (∀ i, okDig s i = (inB (dg s i) 1 s.size && (List.range i).all (fresh s i))) := Lib.hid (fun _ => rfl)
 go_in
 go_wp2_with (first | (go_at_call 81; refine (spec_l1In _ _ _ _).mono ?_; rintro e w' ⟨rfl, rfl⟩))
 go_loopw [3] (fun i wr => ∃ k : Nat, k ≤ s.size ∧ i = .int .i64 k ∧ Hid (∀ j, j < k → okDig s j = true) ∧ Below w.heap.size w wr) (fun i _ => s.size - (intOf i).toNat)
 case atStart => exact ⟨0, Nat.zero_le _, rfl, Lib.hid (fun j hj => absurd hj (by omega)), Below.refl _ _⟩
 case round =>
  obtain ⟨i, hi, rfl, HK, hbl⟩ := hrel
  by_cases hlt : i < s.size
  ·have hn0 := PlainAid.bt_nonneg s i
   have hn1 := PlainAid.bt_le s i
   have hdg : PlainAid.bt s i - 48 = dg s i := rfl
   have EO := Lib.hid (HO.out i)
   by_cases hlo : PlainAid.bt s i < 49
   ·have e0 := Lib.hid (show okDig s i = false by rw [EO.out, show inB (dg s i) 1 s.size = false by rw [inB, decide_eq_false_iff_not, ← hdg]; omega]; rfl)
    go_wp2
    go_ret
    refine ⟨ret_bool ?_, hbl⟩
    rw [HG.out, all_no hlt e0.out]
   by_cases hhi : (s.size : Int) < dg s i
   ·have e0 := Lib.hid (show okDig s i = false by rw [EO.out, show inB (dg s i) 1 s.size = false by rw [inB, decide_eq_false_iff_not]; omega]; rfl)
    go_wp2
    go_ret
    refine ⟨ret_bool ?_, hbl⟩
    rw [HG.out, all_no hlt e0.out]
   have e1 := Lib.hid (show okDig s i = (List.range i).all (fresh s i) by rw [EO.out, show inB (dg s i) 1 s.size = true by rw [inB, decide_eq_true_iff, ← hdg]; omega]; rfl)
   have HF : Hid (∀ k, fresh s i k = !(PlainAid.bt s k == PlainAid.bt s i)) := Lib.hid (fun k => by
    rw [fresh, Bool.eq_iff_iff]
    simp [dg])
   go_wp2
   go_loopw [4] (fun x wr => ∃ k : Nat, k ≤ i ∧ x = .int .i64 k ∧ Hid (∀ j, j < k → fresh s i j = true) ∧ Below w.heap.size w wr) (fun x _ => i - (intOf x).toNat)
   case atStart => exact ⟨0, Nat.zero_le _, rfl, Lib.hid (fun j hj => absurd hj (by omega)), hbl⟩
   case round =>
    obtain ⟨k, hk, rfl, HJ, hb2⟩ := hrel
    by_cases hlt2 : k < i
    ·have hks : k < s.size := by omega
     have EF := Lib.hid (HF.out k)
     rcases hc : (PlainAid.bt s k == PlainAid.bt s i)
     ·have e2 := Lib.hid (show fresh s i k = true by rw [EF.out, hc]; rfl)
      go_wp2
      go_quiet (fail)
      go_wp2
      go_roundw
      case rel => exact ⟨k + 1, by omega, by go_num, Lib.hid (upto_succ HJ.out e2.out), by (repeat' (first | (with_reducible exact Below.refl _ _) | (with_reducible assumption) | (with_reducible refine below_drewN ?_ _) | (with_reducible refine Below.drew ?_) | (with_reducible refine below_alloc ?_ _) | (with_reducible refine Below.alloc ?_ ?_ _) | (with_reducible refine Below.setCell ?_ ?_ _) | (with_reducible refine below_go ?_ (by with_reducible assumption)) | (with_reducible refine below_then (by with_reducible assumption) ?_ ?_) | go_size))⟩
      case measure => simp [intOf]; omega
     ·have e2 := Lib.hid (show fresh s i k = false by rw [EF.out, hc]; rfl)
      go_wp2
      go_quiet (fail)
      go_wp2
      go_ret
      refine ⟨ret_bool ?_, by (repeat' (first | (with_reducible exact Below.refl _ _) | (with_reducible assumption) | (with_reducible refine below_drewN ?_ _) | (with_reducible refine Below.drew ?_) | (with_reducible refine below_alloc ?_ _) | (with_reducible refine Below.alloc ?_ ?_ _) | (with_reducible refine Below.setCell ?_ ?_ _) | (with_reducible refine below_go ?_ (by with_reducible assumption)) | (with_reducible refine below_then (by with_reducible assumption) ?_ ?_) | go_size))⟩
      rw [HG.out, all_no hlt (by rw [e1.out, all_no hlt2 e2.out])]
    ·obtain rfl : k = i := by omega
     have e3 := Lib.hid (show okDig s k = true by rw [e1.out, all_yes (fun j hj => HJ.out j hj)])
     go_wp2
     go_roundw
     case rel => exact ⟨k + 1, by omega, by go_num, Lib.hid (upto_succ HK.out e3.out), hb2⟩
     case measure => simp [intOf]; omega
  ·obtain rfl : i = s.size := by omega
   go_wp2
   go_ret
   refine ⟨ret_bool ?_, hbl⟩
   rw [HG.out, all_yes (fun j hj => HK.out j hj)]
end Go.Proofs.YtidolgonmimicaaGreat
namespace Go.Proofs.YtidolgonmimicaaGreat
open Go.ChangeShapes Go.WideShapes Go.ChangeAt Go.RowKit Go.Deep
set_option maxRecDepth 100000 in
theorem impl_GoodRow {s : ByteArray} {w : World} (hz : s.size ≤ 16777216) :
  Calls Tryz.prog 189 #[.string s] w fun e w' => e = .returned (.bool (goodRow s)) ∧ w = w' := by
 have hb := PlainAid.get_bt s
 rcases h1 : inB s.size 3 8
 ·have e0 := Lib.hid (goodRow_stage h1)
  go_in
  go_wp2_with (first | (go_at_call 225; refine (impl_isStage _ _).mono ?_; rintro e w' ⟨rfl, rfl⟩))
  go_ret
  exact ⟨ret_bool e0.out.symm, rfl⟩
 have hs8 := inB_t h1
 have HG := Lib.hid (goodRow_all h1)
 have HO : Hid (∀ i, okDig s i = (inB (dg s i) 1 s.size && (List.range i).all (fresh s i))) := Lib.hid (fun _ => rfl)
 go_in
 go_wp2_with (first | (go_at_call 225; refine (impl_isStage _ _).mono ?_; rintro e w' ⟨rfl, rfl⟩))
 go_loopw [3, 12] (fun v i wr => ∃ k : Nat, k ≤ s.size ∧ i = .int .i64 k ∧ v = .int .i64 (mask s k) ∧ mask s k < 256 ∧ Hid (∀ j, j < k → okDig s j = true) ∧ w = wr) (fun _ i _ => s.size - (intOf i).toNat)
 case atStart => exact ⟨0, Nat.zero_le _, rfl, rfl, by rw [mask_0]; decide, Lib.hid (fun j hj => absurd hj (by omega)), rfl⟩
 case round =>
  obtain ⟨i, hi, rfl, rfl, hm, HK, rfl⟩ := hrel
  by_cases hlt : i < s.size
  ·have hn0 := PlainAid.bt_nonneg s i
   have hn1 := PlainAid.bt_le s i
   have hw := wrap_bt s i
   have hdg : dg s i = PlainAid.bt s i - 48 := rfl
   have EO := Lib.hid (HO.out i)
   by_cases hlo : PlainAid.bt s i < 49
   ·have e0 := Lib.hid (show okDig s i = false by rw [EO.out, show inB (dg s i) 1 s.size = false by rw [inB, decide_eq_false_iff_not]; omega]; rfl)
    go_wp2
    go_ret
    refine ⟨ret_bool ?_, rfl⟩
    rw [HG.out, all_no hlt e0.out]
   by_cases hhi : (s.size : Int) ≤ PlainAid.bt s i - 49
   ·have e0 := Lib.hid (show okDig s i = false by rw [EO.out, show inB (dg s i) 1 s.size = false by rw [inB, decide_eq_false_iff_not]; omega]; rfl)
    go_wp2
    go_ret
    refine ⟨ret_bool ?_, rfl⟩
    rw [HG.out, all_no hlt e0.out]
   have hB8 : (PlainAid.bt s i - 49).toNat < 8 := by omega
   have hBd : (PlainAid.bt s i - 49).toNat = (dg s i - 1).toNat := by omega
   have hA := bits_and _ hm _ hB8
   have hOr := (bits_or _ hm _ hB8).1
   have hOr8 := (bits_or _ hm _ hB8).2
   have hmk : (mask s i ||| (1 <<< (PlainAid.bt s i - 49).toNat)) = mask s (i + 1) := by rw [hBd]; rfl
   rw [hmk] at hOr hOr8
   have e1 := Lib.hid (show okDig s i = !(mask s i).testBit (PlainAid.bt s i - 49).toNat by
    rw [EO.out, show inB (dg s i) 1 s.size = true by (rw [inB, decide_eq_true_iff]; omega), hBd, mask_bit i (fun j hj => by
     have := HK.out j hj
     rw [HO.out, Bool.and_eq_true] at this
     exact (inB_t this.1).1) (by omega), Bool.not_not]
    rfl)
   clear hmk hBd hdg
   rcases hbit : (mask s i).testBit (PlainAid.bt s i - 49).toNat
   ·rw [hbit] at hA
    have e2 := Lib.hid (show okDig s i = true by rw [e1.out, hbit]; rfl)
    clear hbit
    go_wp2
    go_roundw
    case rel => exact ⟨i + 1, by omega, by go_num, rfl, hOr8, Lib.hid (upto_succ HK.out e2.out), trivial⟩
    case measure => simp [intOf]; omega
   ·rw [hbit] at hA
    have e2 := Lib.hid (show okDig s i = false by rw [e1.out, hbit]; rfl)
    clear hbit
    go_wp2
    go_ret
    refine ⟨ret_bool ?_, rfl⟩
    rw [HG.out, all_no hlt e2.out]
  ·obtain rfl : i = s.size := by omega
   go_wp2
   go_ret
   refine ⟨ret_bool ?_, rfl⟩
   rw [HG.out, all_yes (fun j hj => HK.out j hj)]
end Go.Proofs.YtidolgonmimicaaGreat
namespace Go.Proofs.YtidolgonmimicaaGreat
open Go.ChangeShapes Go.WideShapes Go.ChangeAt Go.RowKit Go.Deep
end Go.Proofs.YtidolgonmimicaaGreat
namespace Go.Proofs.YtidolgonmimicaaGreat
open Go.ChangeShapes Go.WideShapes Go.ChangeAt Go.RowKit Go.Deep
theorem impl_isRowOf {s : ByteArray} {n : Nat} {w : World} (hz : s.size ≤ 16777216) :
  Calls Tryz.prog 99 #[.int .i64 n, .string s] w fun e w' => e = .returned (.bool (goodRow s && (s.size == n))) ∧ w = w' := by
 by_cases h1 : s.size = n
 ·have h2 : ((s.size : Int) == (n : Int)) = true := beq_iff_eq.2 (by omega)
  have e0 := Lib.hid (show (goodRow s && (s.size == n)) = goodRow s by rw [show (s.size == n) = true from beq_iff_eq.2 h1, Bool.and_true])
  clear h1
  go_in
  go_wp2_with (first | (go_at_call 189; refine (impl_GoodRow hz).mono ?_; rintro e w' ⟨rfl, rfl⟩))
  go_ret
  exact ⟨ret_bool e0.out.symm, rfl⟩
 ·have h2 : ((s.size : Int) == (n : Int)) = false := beq_eq_false_iff_ne.2 (by omega)
  have e0 := Lib.hid (show (goodRow s && (s.size == n)) = false by rw [show (s.size == n) = false from beq_eq_false_iff_ne.2 h1, Bool.and_false])
  clear h1
  go_in
  go_wp2
  go_ret
  exact ⟨ret_bool e0.out.symm, rfl⟩
end Go.Proofs.YtidolgonmimicaaGreat
namespace Go.Proofs.YtidolgonmimicaaGreat
open Go.ChangeShapes Go.WideShapes Go.ChangeAt Go.RowKit Go.Deep
theorem fact_le : ∀ k, k < 9 → fact k ≤ 40320 := of_decide_eq_true (by kernel_rfl)
theorem fact_one {n : Nat} (h : n ≤ 1) : fact n = 1 := by
 rcases n with _ | _ | n
 ·rfl
 ·rfl
 ·omega
theorem spec_l1Fact {n : Nat} {w : World} (hn : n ≤ 8) :
  Calls Tryz.prog 185 #[.int .i64 n] w fun e w' => e = .returned (.int .i64 (fact n)) ∧ w = w' := by
 have HF : Hid (∀ k, fact (k + 1) = (k + 1) * fact k) := Lib.hid (fun _ => rfl)
 have hfn := fact_le n (by omega)
 go_in
 go_wp2
 go_loopw [0, 3] (fun i v wr => ∃ (k q : Nat), k ≤ n ∧ i = .int .i64 k ∧ v = .int .i64 q ∧ q ≤ 40320 ∧ Hid (q * fact k = fact n) ∧ w = wr) (fun i _ _ => (intOf i).toNat)
 case atStart => exact ⟨n, 1, Nat.le_refl _, rfl, rfl, by omega, Lib.hid (Nat.one_mul _), rfl⟩
 case round =>
  obtain ⟨k, q, hk, rfl, rfl, hq, HQ, rfl⟩ := hrel
  by_cases hlt : 1 < k
  ·obtain ⟨m, rfl⟩ : ∃ m, k = m + 1 := ⟨k - 1, by omega⟩
   have hI : (1 : Int) < (m : Int) + 1 := by omega
   have h2 := Lib.hid (show q * (m + 1) * fact m = fact n by rw [Nat.mul_assoc, ← HF.out, HQ.out])
   have h3 : q * (m + 1) ≤ 40320 := Nat.le_trans (Nat.le_mul_of_pos_right _ (fact_pos m)) (by rw [h2.out]; exact hfn)
   have h4 : ((q : Int) * ((m : Int) + 1)) = ((q * (m + 1) : Nat) : Int) := by rw [Int.natCast_mul]; rfl
   have h5 : 0 ≤ (q : Int) * ((m : Int) + 1) ∧ (q : Int) * ((m : Int) + 1) ≤ 40320 := by rw [h4]; omega
   have H4 := Lib.hid h4
   obtain ⟨h6, h7⟩ := h5
   clear h4
   go_wp2
   go_roundw
   case rel => exact ⟨m, q * (m + 1), by omega, by first | go_num | rfl, by rw [H4.out], h3, Lib.hid h2.out, trivial⟩
   case measure => simp [intOf]
  ·have hI : ¬ (1 : Int) < (k : Int) := by omega
   have e1 := Lib.hid (show q = fact n by rw [← HQ.out, fact_one (by omega : k ≤ 1), Nat.mul_one])
   go_wp2
   go_ret
   rw [← e1.out]
   exact ⟨rfl, rfl⟩
def cyc (l : List ByteArray) (k : Nat) : ByteArray := l.getD (k % l.length) ByteArray.empty
def nextAt (l : List ByteArray) (k : Nat) : Bool := btwB (cyc l k) (cyc l (k + 1))
def nextsB (l : List ByteArray) : Bool := (List.range l.length).all (nextAt l)
def smallR (l : List ByteArray) : Bool := goodRows l && (decide (0 < l.length) && decide ((l.getD 0 ByteArray.empty).size ≤ 6))
def extR (l : List ByteArray) : Bool := smallR l && (nextsB l && (nodupB l && (l.length == fact (l.getD 0 ByteArray.empty).size)))
end Go.Proofs.YtidolgonmimicaaGreat
namespace Go.Proofs.YtidolgonmimicaaGreat
theorem nums_data (s : ByteArray) : nums s = s.data.toList.map fun b => (b.toNat : Int) := by
 apply List.ext_getElem
 ·rw [nums_len, List.length_map, Array.length_toList]; rfl
 ·intro j h1 h2
  have hj : j < s.size := by rwa [nums_len] at h1
  have h := nums_at hj
  rw [List.getElem?_eq_getElem h1] at h
  injection h with h
  rw [h, PlainAid.bt, dif_pos hj, List.getElem_map, Array.getElem_toList]
  rfl
theorem nums_app (a b : ByteArray) : nums (a ++ b) = nums a ++ nums b := by
 rw [nums_data, nums_data, nums_data, ByteArray.data_append, Array.toList_append, List.map_append]
theorem nums_ext (s : ByteArray) (i j : Nat) : nums (s.extract i j) = ((nums s).drop i).take (j - i) := by
 rw [nums_data, nums_data, Lib.extract_data, List.map_take, List.map_drop]
theorem cut_perm {R O : List Int} {i : Nat} (h : i < R.length) : ((O ++ [R[i]]) ++ (R.take i ++ R.drop (i + 1))).Perm (O ++ R) := by
 rw [List.append_assoc]
 apply List.Perm.append_left
 have e : R = R.take i ++ R[i] :: R.drop (i + 1) := by rw [← List.drop_eq_getElem_cons h, List.take_append_drop]
 rw [List.singleton_append]
 conv => rhs; rw [e]
 exact List.perm_middle.symm
def RowSt (n : Nat) (out rest : ByteArray) : Prop := (nums out ++ nums rest).Perm (nums (roundsS n))
theorem RowSt.sizes {n : Nat} {out rest : ByteArray} (h : RowSt n out rest) (hn : n ≤ 8) : out.size + rest.size = n := by
 have := h.length_eq
 rw [List.length_append, nums_len, nums_len, nums_len, rounds_size n (by omega)] at this
 exact this
theorem RowSt.step {n i : Nat} {out rest : ByteArray} (h : RowSt n out rest) (hi : i < rest.size) : RowSt n (out ++ rest.extract i (i + 1)) (rest.extract 0 i ++ rest.extract (i + 1) rest.size) := by
 have hl : i < (nums rest).length := by rw [nums_len]; exact hi
 have e1 : nums (rest.extract i (i + 1)) = [(nums rest)[i]] := by
  rw [nums_ext, List.drop_eq_getElem_cons hl, show i + 1 - i = 0 + 1 by omega, List.take_succ_cons, List.take_zero]
 have e2 : nums (rest.extract 0 i) = (nums rest).take i := by rw [nums_ext, List.drop_zero, Nat.sub_zero]
 have e3 : nums (rest.extract (i + 1) rest.size) = (nums rest).drop (i + 1) := by
  rw [nums_ext, List.take_of_length_le]
  rw [List.length_drop, nums_len]
  exact Nat.le_refl _
 rw [RowSt, nums_app, nums_app, e1, e2, e3]
 exact (cut_perm hl).trans h
theorem RowSt.done {n : Nat} {out rest : ByteArray} (h : RowSt n out rest) (h3 : 3 ≤ n) (h8 : n ≤ 8) (h0 : rest.size = 0) : goodRow out = true ∧ out.size = n := by
 have hs := h.sizes h8
 have e : nums rest = [] := List.length_eq_zero_iff.1 (by rw [nums_len]; exact h0)
 have hp : (nums out).Perm (nums (roundsS n)) := by rw [RowSt, e, List.append_nil] at h; exact h
 have hr := goodRow_list (good_rounds n (by omega) h3)
 have ho : out.size = n := by omega
 refine ⟨goodRow_of (by omega) ⟨hp.nodup_iff.2 hr.1, fun z hz => ?_⟩, ho⟩
 have := hr.2 z (hp.mem_iff.1 hz)
 rw [hp.length_eq]
 exact this
theorem RowSt.start (n : Nat) : RowSt n ⟨#[]⟩ (roundsS n) := by
 have e : nums (⟨#[]⟩ : ByteArray) = [] := List.length_eq_zero_iff.1 (by rw [nums_len]; rfl)
 rw [RowSt, e, List.nil_append]
theorem div_lt_of {k f r : Nat} (h : k < r * f) (_hf : 0 < f) : k / f < r := Nat.div_lt_of_lt_mul (by rw [Nat.mul_comm]; exact h)
end Go.Proofs.YtidolgonmimicaaGreat
namespace Go.Proofs.YtidolgonmimicaaGreat
open Go.ChangeShapes Go.WideShapes Go.ChangeAt Go.RowKit Go.Deep
def RowN (n : Nat) (s : ByteArray) : Prop := goodRow s = true ∧ s.size = n
theorem RowN.times {n : Nat} {a b : ByteArray} (h : RowN n a) (g : RowN n b) : RowN n (timesS a b) :=
 ⟨good_times h.1 g.1 (by rw [h.2, g.2]), by rw [timesS, strOfNums_size, timesL_len, g.2]⟩
theorem RowN.st {n : Nat} {a : ByteArray} (h : RowN n a) : 3 ≤ n ∧ n ≤ 8 := by have := goodRow_n h.1; rw [h.2] at this; exact this
theorem rowN_fits {n : Nat} {a b : ByteArray} (h : RowN n a) (g : RowN n b) : fits a b := fits_good g.1 (by rw [h.2, g.2])
theorem rowN_inj {n : Nat} {a b : ByteArray} (h : RowN n a) (g : RowN n b) (e : place a = place b) : a = b := place_inj h.1 g.1 (by rw [h.2, g.2]) e
theorem rowN_place {n : Nat} {a : ByteArray} (h : RowN n a) : place a < fact n := by have := place_lt a; rwa [h.2] at this
theorem fact_le8 : ∀ {n : Nat}, n ≤ 8 → fact n ≤ 40320 := fun {n} h => by
 have : ∀ n, n < 9 → fact n ≤ 40320 := of_decide_eq_true (by kernel_rfl)
 exact this n (by omega)
theorem rows_le {n : Nat} {l : List ByteArray} (hn : l.Nodup) (hg : ∀ s ∈ l, RowN n s) : l.length ≤ fact n := by
 have h1 : (l.map place).Nodup := by
  rw [List.nodup_iff_pairwise_ne, List.pairwise_map]
  rw [List.nodup_iff_pairwise_ne] at hn
  exact hn.imp_of_mem fun {x y} hx hy hne e => hne (rowN_inj (hg x hx) (hg y hy) e)
 have h2 := h1.length_le_of_subset (l₂ := List.range (fact n)) (fun p hp => by
  obtain ⟨s, hs, rfl⟩ := List.mem_map.1 hp
  exact List.mem_range.2 (rowN_place (hg s hs)))
 rw [List.length_map, List.length_range] at h2
 exact h2
def inL (L : List ByteArray) (s : ByteArray) : Bool := L.any fun y => decide (y = s)
theorem inL_iff {L : List ByteArray} {s : ByteArray} : inL L s = true ↔ s ∈ L := by
 rw [inL, List.any_eq_true]
 constructor
 ·rintro ⟨y, hy, e⟩
  rw [← of_decide_eq_true e]; exact hy
 ·intro h
  exact ⟨s, h, decide_eq_true rfl⟩
def clAdd (x : ByteArray) (L : List ByteArray) (g : ByteArray) : List ByteArray := if inL L (timesS x g) = true then L else L ++ [timesS x g]
theorem clAdd_in {x g : ByteArray} {L : List ByteArray} (h : timesS x g ∈ L) : clAdd x L g = L := by rw [clAdd, if_pos (inL_iff.2 h)]
theorem clAdd_new {x g : ByteArray} {L : List ByteArray} (h : timesS x g ∉ L) : clAdd x L g = L ++ [timesS x g] := by rw [clAdd, if_neg (fun e => h (inL_iff.1 e))]
def clPart (gs : List ByteArray) (x : ByteArray) (j : Nat) (L : List ByteArray) : List ByteArray := (gs.take j).foldl (clAdd x) L
def clAt (gs : List ByteArray) (r : ByteArray) : Nat → List ByteArray
 | 0 => [r]
 | k + 1 => match (clAt gs r k)[k]? with
  | some x => clPart gs x gs.length (clAt gs r k)
  | none => clAt gs r k
def clF (n : Nat) (gs : List ByteArray) : List ByteArray := clAt gs (roundsS n) (fact n)
def ClOk (n : Nat) (L : List ByteArray) : Prop := L.Nodup ∧ ∀ s ∈ L, RowN n s
theorem ClOk.add {n : Nat} {x g : ByteArray} {L : List ByteArray} (h : ClOk n L) (hx : RowN n x) (hg : RowN n g) : ClOk n (clAdd x L g) := by
 by_cases e : timesS x g ∈ L
 ·rw [clAdd_in e]; exact h
 ·rw [clAdd_new e]
  refine ⟨List.nodup_append.2 ⟨h.1, by simp, fun a ha b hb he => e (by rw [← List.mem_singleton.1 hb, ← he]; exact ha)⟩, fun s hs => ?_⟩
  rcases List.mem_append.1 hs with hs | hs
  ·exact h.2 s hs
  ·rw [List.mem_singleton.1 hs]; exact hx.times hg
theorem ClOk.fold {n : Nat} {x : ByteArray} (hx : RowN n x) : ∀ (gs L : List ByteArray), (∀ g ∈ gs, RowN n g) → ClOk n L → ClOk n (gs.foldl (clAdd x) L)
 | [], _, _, h => h
 | g :: gs, L, hg, h => ClOk.fold hx gs _ (fun y hy => hg y (List.mem_cons_of_mem _ hy)) (h.add hx (hg g (List.mem_cons_self ..)))
theorem ClOk.part {n : Nat} {x : ByteArray} {gs L : List ByteArray} (h : ClOk n L) (hx : RowN n x) (hg : ∀ g ∈ gs, RowN n g) (j : Nat) : ClOk n (clPart gs x j L) := ClOk.fold hx _ _ (fun g h => hg g (List.mem_of_mem_take h)) h
theorem ClOk.le {n : Nat} {L : List ByteArray} (h : ClOk n L) : L.length ≤ fact n := rows_le h.1 h.2
section
variable {n : Nat} {gs : List ByteArray} {r : ByteArray}
end
end Go.Proofs.YtidolgonmimicaaGreat
namespace Go.Proofs.YtidolgonmimicaaGreat
open Go.ChangeShapes Go.WideShapes Go.ChangeAt Go.RowKit Go.Deep
set_option maxRecDepth 100000 in
theorem cur_pickL {A : Option Addr} {n c a p : Nat} {N : Int} {w0 w : World} (hS : Src w0 A n) (hb : Below w0.heap.size w0 w) (hp : w0.heap.size ≤ p) (hc : Cur w p A n c a) (ha : a ≤ 10000000) (hN : N ≤ 50000) (hN0 : -1000 ≤ N) :
  Calls Tryz.prog 72 #[.pointer (some ⟨p, 0, none⟩), .int .i64 N] w fun e w' => ∃ x : Int, e = .returned (.int .i64 x) ∧ upTo N x ∧ Cur w' p A n c (a + 2) ∧ w.grownBy w' (some p) := by
 by_cases h2 : N ≤ 200
 ·refine (cur_pick hS hb hp hc (by omega) h2 hN0).mono ?_; rintro e w1 ⟨x, rfl, hx, hc1, hg1⟩
  exact ⟨x, rfl, hx, hc1.mono (by omega), hg1⟩
 ·have G : Hid (∀ u : World, w.grownBy u (some p) → Below w0.heap.size w0 u) := Lib.hid (fun u hg => grown_below hb hp hg)
  have hI : (200 : Int) < N := by omega
  have hI1 : ¬ N ≤ 1 := by omega
  have hN1 : ¬ N = 0 := by omega
  go_in
  go_wp2_with fail
  refine (cur_next hS hb hp hc (by omega)).mono ?_; rintro e w1 ⟨x, rfl, x0, x1, hc1, hg1⟩
  go_wp2_with fail
  refine (cur_next hS (G.out _ hg1) hp hc1 (by omega)).mono ?_; rintro e w2 ⟨y, rfl, y0, y1, hc2, hg2⟩
  have hm : (x * 256 + y).tmod N = (x * 256 + y) % N := Int.tmod_eq_emod_of_nonneg (by omega)
  have m0 := Int.emod_nonneg (x * 256 + y) hN1
  have m1 := Int.emod_lt_of_pos (x * 256 + y) (show 0 < N by omega)
  go_wp2
  go_ret
  exact ⟨_, rfl, ⟨m0, .inl m1⟩, hc2, grownBy_trans hg1 hg2⟩
def txLen : Value → Nat
 | .string s => s.size
 | _ => 0
set_option maxHeartbeats 1000000 in
set_option maxRecDepth 100000 in
theorem spec_RowOf {n k : Nat} {w : World} (h3 : 3 ≤ n) (h8 : n ≤ 8) (hk : k < fact n) :
  Calls Tryz.prog 184 #[.int .i64 n, .int .i64 k] w fun e w' => ∃ r, e = .returned (.tuple #[.string r, .bool true]) ∧ RowN n r ∧ Below w.heap.size w w' := by
 have hfn := fact_le8 h8
 have HF : Hid (∀ k, k ≤ 8 → fact k ≤ 40320) := Lib.hid (fun k hk => fact_le8 hk)
 have HP : Hid (∀ k, 0 < fact k) := Lib.hid fact_pos
 have HM : Hid (∀ k, 0 < k → fact k = k * fact (k - 1)) := Lib.hid (fun k hk => by obtain ⟨m, rfl⟩ : ∃ m, k = m + 1 := ⟨k - 1, by omega⟩; rfl)
 have HST := Lib.hid (RowSt.start n)
 have hrs : (roundsS n).size = n := rounds_size n (by omega)
 have h1 : inB (n : Int) 3 8 = true := by rw [inB, decide_eq_true_iff]; omega
 have h2 : inB (k : Int) 0 ((fact n : Int) - 1) = true := by rw [inB, decide_eq_true_iff]; omega
 go_in
 go_wp2_with (first | (go_at_call 81; refine (spec_l1In _ _ _ _).mono ?_; (first | rw [h1] | rw [h2]); rintro e w' ⟨rfl, rfl⟩) | (go_at_call 185; refine (spec_l1Fact h8).mono ?_; rintro e w' ⟨rfl, rfl⟩) | (go_at_call 90; refine (spec_l1Rounds h8).mono ?_; rintro e w' ⟨rfl, rfl⟩))
 go_loopw [1, 6, 7] (fun kk r o wr => ∃ (K : Nat) (rest out : ByteArray), kk = .int .i64 K ∧ r = .string rest ∧ o = .string out ∧ rest.size ≤ n ∧ K < fact rest.size ∧ Hid (RowSt n out rest) ∧ Below w.heap.size w wr) (fun _ r _ _ => txLen r)
 case atStart => exact ⟨k, roundsS n, ⟨#[]⟩, rfl, rfl, rfl, by omega, by rw [hrs]; exact hk, HST, Below.refl _ _⟩
 case round =>
  obtain ⟨K, rest, out, rfl, rfl, rfl, hrn, hK, HS, hb⟩ := hrel
  rename World => wr
  have hsz := HS.out.sizes h8
  by_cases h0 : 0 < rest.size
  ·have hI : (0 : Int) < (rest.size : Int) := by omega
   have hm1 : (rest.size : Int) - 1 = ((rest.size - 1 : Nat) : Int) := by omega
   obtain ⟨F, hF⟩ : ∃ F, F = fact (rest.size - 1) := ⟨_, rfl⟩
   have hFp : 0 < F := by rw [hF]; exact HP.out _
   have hFl : F ≤ 40320 := by rw [hF]; exact HF.out _ (by omega)
   have hKF : K < rest.size * F := by rw [hF, ← HM.out _ h0]; exact hK
   have hK4 : K ≤ 40320 := by have := HF.out rest.size (by omega); omega
   have hi : K / F < rest.size := div_lt_of hKF hFp
   have hmod : K % F < F := Nat.mod_lt _ hFp
   obtain ⟨q, hq⟩ : ∃ q, q = K / F := ⟨_, rfl⟩
   obtain ⟨m, hm⟩ : ∃ m, m = K % F := ⟨_, rfl⟩
   have hqK : q ≤ K := by rw [hq]; exact Nat.div_le_self K F
   have e1 : IntKind.i64.wrap ((K : Int) / (F : Int)) = (q : Int) := by
    rw [show (K : Int) / (F : Int) = (q : Int) by rw [hq]; simp]; exact wrap_id (by omega)
   have e2 : (K : Int) % (F : Int) = (m : Int) := by rw [hm]; simp
   rw [← hq] at hi
   rw [← hm] at hmod
   have HST2 := Lib.hid (HS.out.step hi)
   have hFn : ¬ (F : Int) = 0 := by omega
   have hs2 := HST2.out.sizes h8
   have hs3 : (out ++ rest.extract q (q + 1)).size = out.size + 1 := by rw [ByteArray.size_append, ByteArray.size_extract]; omega
   have hfq : fact (rest.extract 0 q ++ rest.extract (q + 1) rest.size).size = F := by rw [hF]; congr 1; omega
   have HF2 := Lib.hid hF
   have HS2 := Lib.hid hfq
   clear hq hm hfq hF
   clear hKF hK
   go_wp2_with (go_at_call 185; refine (spec_l1Fact (n := rest.size - 1) (by omega)).mono ?_; rw [← HF2.out]; rintro e w' ⟨rfl, rfl⟩)
   have w1 : IntKind.i64.wrap ((q : Int) + 1) = (q : Int) + 1 := wrap_id (by omega)
   have w2 : (q : Int) + 1 ≤ (rest.size : Int) := by omega
   have w3 : (q : Int) ≤ (rest.size : Int) := by omega
   go_quiet (fail)
   go_wp2
   go_roundw
   case rel => exact ⟨m, rest.extract 0 q ++ rest.extract (q + 1) rest.size, out ++ rest.extract q (q + 1), by go_num, rfl, rfl, by omega, by rw [HS2.out]; exact hmod, HST2, below_drewN hb _⟩
   case measure => simp [txLen]; omega
  ·go_wp2
   go_ret2
   obtain ⟨h5, h6⟩ := HS.out.done h3 h8 (by omega)
   exact ⟨out, rfl, ⟨h5, h6⟩, hb⟩
end Go.Proofs.YtidolgonmimicaaGreat
namespace Go.Proofs.YtidolgonmimicaaGreat
open Go.ChangeShapes Go.WideShapes Go.ChangeAt Go.RowKit Go.Deep
def invs : List Int → Nat
 | [] => 0
 | x :: r => cnt x r + invs r
def gt (y : Int) (l : List Int) : Nat := l.countP fun z => decide (y < z)
def evB (n : Nat) : Bool := decide (n % 2 = 0)
theorem nums_times {a b : ByteArray} (h : goodRow a = true) (g : goodRow b = true) (e : a.size = b.size) : nums (timesS a b) = timesL a b := by
 have hn := goodRow_n h
 rw [timesS, nums_strOf (rowL_bytes (rowL_times (goodRow_list h) (goodRow_list g) e) (by rw [timesL_len]; omega))]
theorem times_assoc {a b c : ByteArray} (ha : goodRow a = true) (hb : goodRow b = true) (hc : goodRow c = true) (e1 : a.size = b.size) (e2 : b.size = c.size) : timesS a (timesS b c) = timesS (timesS a b) c := by
 suffices h : timesL a (timesS b c) = timesL (timesS a b) c by
  show strOfNums (timesL a (timesS b c)) = strOfNums (timesL (timesS a b) c)
  rw [h]
 show (nums (timesS b c)).map _ = (nums c).map _
 rw [nums_times hb hc e2, timesL, List.map_map]
 apply List.map_congr_left
 intro z hz
 have hz2 := (goodRow_list hc).2 z hz
 rw [nums_len] at hz2
 have hk : (z - 49).toNat < b.size := by omega
 have h1 := timesL_at (a := a) hk
 rw [← nums_times ha hb e1, nums_at (by rw [timesS, strOfNums_size, timesL_len]; exact hk)] at h1
 injection h1 with h1
 rw [h1]; rfl
theorem times_rounds {a : ByteArray} (h : goodRow a = true) : timesS a (roundsS a.size) = a := by
 have hn := goodRow_n h
 apply nums_inj
 rw [nums_times h (good_rounds _ (by omega) (by omega)) (rounds_size _ (by omega)).symm, timesL, rowV_nil _ (by omega)]
 apply List.ext_getElem (by rw [List.length_map, rowV_len, nums_len])
 intro i h1 h2
 simp only [rowV, List.getElem_map, List.getElem_range, nums]
 congr 1
 simp [cval]
 omega
end Go.Proofs.YtidolgonmimicaaGreat
namespace Go.Proofs.YtidolgonmimicaaGreat
open Go.ChangeShapes Go.WideShapes Go.ChangeAt Go.RowKit Go.Deep
def TurnOf (a : ByteArray) (m : List Int) : Prop := m.length = a.size ∧ ∀ i, i < a.size → m[(PlainAid.bt a i - 49).toNat]? = some (49 + (i : Int))
theorem row_hit {a : ByteArray} (h : goodRow a = true) {j : Nat} (hj : j < a.size) : ∃ i, i < a.size ∧ PlainAid.bt a i = 49 + (j : Int) := by
 have hm : (49 + (j : Int)) ∈ nums a := (isRowL_mem (goodRow_list h)).2 (by rw [nums_len]; omega)
 obtain ⟨i, hi⟩ := List.getElem?_of_mem hm
 have hl := (List.getElem?_eq_some_iff.1 hi).1
 rw [nums_len] at hl
 rw [nums_at hl] at hi
 injection hi with hi
 exact ⟨i, hl, hi⟩
theorem TurnOf.uniq {a : ByteArray} {m l : List Int} (h : goodRow a = true) (hm : TurnOf a m) (hl : TurnOf a l) : m = l := by
 refine eq_of_upto (k := a.size) (fun j hj => ?_) hm.1 hl.1
 obtain ⟨i, hi, e⟩ := row_hit h hj
 have h1 := hm.2 i hi
 have h2 := hl.2 i hi
 rw [e, show ((49 : Int) + (j : Int) - 49).toNat = j by omega] at h1 h2
 rw [h1, h2]
noncomputable def turnS (a : ByteArray) : ByteArray := by
 classical exact if h : ∃ m, TurnOf a m then strOfNums h.choose else ByteArray.empty
def pwS (n : Nat) (q : ByteArray) : Nat → ByteArray
 | 0 => roundsS n
 | k + 1 => timesS (pwS n q k) q
def pwL (n : Nat) (q : ByteArray) (m : Nat) : List ByteArray := (List.range m).map (pwS n q)
def closedB (q : ByteArray) (B : List ByteArray) : Bool := B.all fun h => inL B (timesS h q)
def rowsInB (G B : List ByteArray) : Bool := B.all (inL G) && incB B
end Go.Proofs.YtidolgonmimicaaGreat
namespace Go.Proofs.YtidolgonmimicaaGreat
open Go.ChangeShapes Go.WideShapes Go.ChangeAt Go.RowKit Go.Deep
abbrev Fate := Option (List ByteArray) ⊕ Nat
def srchL (rec : ByteArray → List ByteArray → List ByteArray → Nat → Fate) (n : Nat) (full : Bool) (r : ByteArray) (V P : List ByteArray) : List ByteArray → Nat → Fate
 | [], left => .inr left
 | _ :: _, 0 => .inl none
 | c :: cs, left + 1 =>
  if full = true ∧ decide (applyR r c = roundsS n) = true then .inl (some (P ++ [c]))
  else if full = true ∨ inL V (applyR r c) = true then srchL rec n full r V P cs left
  else match rec (applyR r c) (V ++ [applyR r c]) (P ++ [c]) left with
   | .inr left' => srchL rec n full r V P cs left'
   | .inl o => .inl o
def srch (n : Nat) (W : List ByteArray) : Nat → ByteArray → List ByteArray → List ByteArray → Nat → Fate
 | 0, r, V, P, left => srchL (fun _ _ _ l => .inr l) n true r V P W left
 | d + 1, r, V, P, left => srchL (srch n W d) n false r V P W left
section
variable {rec : ByteArray → List ByteArray → List ByteArray → Nat → Fate} {n : Nat} {full : Bool} {r c : ByteArray} {V P cs : List ByteArray} {left : Nat}
end
def cntL (rec : ByteArray → List ByteArray → Nat) (n : Nat) (full : Bool) (r : ByteArray) (V : List ByteArray) : List ByteArray → Nat
 | [] => 0
 | c :: cs =>
  if full = true then (if decide (applyR r c = roundsS n) = true then 1 else 0) + cntL rec n full r V cs
  else if inL V (applyR r c) = true then cntL rec n full r V cs
  else rec (applyR r c) (V ++ [applyR r c]) + cntL rec n full r V cs
def cntX (n : Nat) (W : List ByteArray) : Nat → ByteArray → List ByteArray → Nat
 | 0, r, V => cntL (fun _ _ => 0) n true r V W
 | d + 1, r, V => cntL (cntX n W d) n false r V W
def stpL (rec : ByteArray → List ByteArray → Nat) (full : Bool) (r : ByteArray) (V : List ByteArray) : List ByteArray → Nat
 | [] => 0
 | c :: cs => 1 + (if full = true ∨ inL V (applyR r c) = true then 0 else rec (applyR r c) (V ++ [applyR r c])) + stpL rec full r V cs
def stpX (W : List ByteArray) : Nat → ByteArray → List ByteArray → Nat
 | 0, r, V => stpL (fun _ _ => 0) true r V W
 | d + 1, r, V => stpL (stpX W d) false r V W
def stB (k : Nat) : Nat → Nat
 | 0 => k
 | d + 1 => k * (1 + stB k d)
def ctB (k : Nat) : Nat → Nat
 | 0 => k
 | d + 1 => k * (1 + ctB k d)
theorem RowN.apply {n : Nat} {r : ByteArray} (h : RowN n r) (c : ByteArray) : RowN n (applyR r c) := ⟨good_apply h.1 c, by rw [applyR_size]; exact h.2⟩
end Go.Proofs.YtidolgonmimicaaGreat
namespace Go.Proofs.YtidolgonmimicaaGreat
open Go.ChangeShapes Go.WideShapes Go.ChangeAt Go.RowKit Go.Deep
set_option maxHeartbeats 1000000 in
set_option maxRecDepth 100000 in
theorem spec_l4Head {A : Option Addr} {n c st : Nat} {nm : ByteArray} {l : List ByteArray} {w : World} (hn : l.length = n) (h : Strs w A l) (hz : n ≤ 1048576) (hs : ∀ s ∈ l, s.size ≤ 16777216) (h8 : st ≤ 8) :
  Calls Tryz.prog 228 #[.agg #[.string nm, .int .i64 (st : Int), .slice A n c]] w fun e w' => e = .returned (.string (rAt (roundsS st) l n)) ∧ Below w.heap.size w w' := by
 have b0 : Below w.heap.size w (w.alloc (.cells ⟨[.string nm, .int .i64 (st : Int), .slice A n c]⟩ 25)) := by (repeat' (first | (with_reducible exact Below.refl _ _) | (with_reducible assumption) | (with_reducible refine below_drewN ?_ _) | (with_reducible refine Below.drew ?_) | (with_reducible refine below_alloc ?_ _) | (with_reducible refine Below.alloc ?_ ?_ _) | (with_reducible refine Below.setCell ?_ ?_ _) | (with_reducible refine below_go ?_ (by with_reducible assumption)) | (with_reducible refine below_then (by with_reducible assumption) ?_ ?_) | go_size))
 have K0 := Blk.at_ w 25 [.string nm, .int .i64 (st : Int), .slice A n c] (b := w.heap.size) rfl
 have HS := Lib.hid hs
 have HN := Lib.hid hn
 have hr8 : (roundsS st).size ≤ 8 := by rw [rounds_size st (by omega)]; exact h8
 clear hs hn
 go_in
 go_upto_region 1 with fail
 obtain ⟨w0, hw0⟩ : ∃ u, u = w.alloc (.cells #[.string nm, .int .i64 (st : Int), .slice A n c] 25) := ⟨_, rfl⟩
 rw [← hw0] at b0 K0 ⊢
 clear hw0
 have H0 := h.up b0
 have k1 := K0.cell 1; have k2 := K0.cell 2
 simp only [List.getElem?_cons_zero, List.getElem?_cons_succ] at k1 k2
 go_region_held3 (fun u => u.cell? ⟨w.heap.size, 1, none⟩ = some (.int .i64 (st : Int)) ∧ u.cell? ⟨w.heap.size, 2, none⟩ = some (.slice A n c)) (first | exact ⟨k1d, k2d⟩ | exact ⟨k1, k2⟩) (first | (go_at_call 90; refine (spec_l1Rounds h8).mono ?_; rintro e w' ⟨rfl, rfl⟩) | (go_at_call 192; refine (spec_l4Lead hr8 HN.out H0.drew (by omega) HS.out).mono ?_; rintro e w1 ⟨A1, c1, rfl, ho, hbd⟩; have hb1 := below_of_drew hbd; have L0 := K0.up hb1; have k1d := L0.cell 1; have k2d := L0.cell 2; simp only [List.getElem?_cons_zero, List.getElem?_cons_succ] at k1d k2d))
 go_wp2
 go_ret
 exact ⟨rfl, below_go b0 hb1⟩
end Go.Proofs.YtidolgonmimicaaGreat
namespace Go.Proofs.YtidolgonmimicaaGreat
open Go.ChangeShapes Go.WideShapes Go.ChangeAt Go.RowKit Go.Deep
theorem own_lit1_at' {α : Type} {e : α → List Value} {s : Nat} (he : ∀ x, (e x).length = s) (w : World) (E : TypeId) (x : α) {b base : Nat} (h : b = w.heap.size) (hb : base ≤ w.heap.size) : Owned e s E (w.alloc (.cells ⟨e x⟩ E)) base (some ⟨b, 0, none⟩) 1 1 [x] := by
 subst h
 exact ⟨he, rfl, by simpa using World.ownsRow_lit (e := E) (base := base) (size := s) w ⟨e x⟩ 1 hb (by unfold maxLen; omega) (by simp [he])⟩
end Go.Proofs.YtidolgonmimicaaGreat
namespace Go.Proofs.YtidolgonmimicaaGreat
open Go.ChangeShapes Go.WideShapes Go.ChangeAt Go.RowKit Go.Deep
def MSt (w u : World) (p : Nat) (A : Option Addr) (n c a b : Nat) (nm : ByteArray) (st : Int) (v : Value) : Prop :=
 Blk u b 25 [.string nm, .int .i64 st, v] ∧ Cur u p A n c a ∧ (∃ x y z, Blk u w.heap.size 25 [x, y, z]) ∧ w.grownBy u (some p) ∧ p < w.heap.size ∧ w.heap.size < b
section
variable {w u u' : World} {p n c a a' b : Nat} {A : Option Addr} {nm : ByteArray} {st : Int} {v v' : Value}
theorem MSt.mono (h : MSt w u p A n c a b nm st v) (ha : a ≤ a') : MSt w u p A n c a' b nm st v := ⟨h.1, h.2.1.mono ha, h.2.2⟩
theorem MSt.draw (h : MSt w u p A n c a b nm st v) (hg : u.grownBy u' (some p)) (hc : Cur u' p A n c a') : MSt w u' p A n c a' b nm st v := by
 obtain ⟨h1, _, ⟨x, y, z, h3⟩, h4, h5, h6⟩ := h
 exact ⟨h1.grown hg (fun e => by injection e with e; omega), hc, ⟨x, y, z, h3.grown hg (fun e => by injection e with e; omega)⟩, grownBy_trans h4 hg, h5, h6⟩
theorem MSt.grown {row : Option Nat} (h : MSt w u p A n c a b nm st v) (hg : u.grownBy u' row) (hr : ∀ k, row = some k → b < k) : MSt w u' p A n c a b nm st v := by
 obtain ⟨h1, h2, ⟨x, y, z, h3⟩, h4, h5, h6⟩ := h
 exact ⟨h1.grown hg (fun e => by have := hr b e.symm; omega), h2.grown hg (fun e => by have := hr p e.symm; omega), ⟨x, y, z, h3.grown hg (fun e => by have := hr _ e.symm; omega)⟩, grow_own h4 hg (fun k e => by have := hr k e; omega), h5, h6⟩
theorem MSt.up (h : MSt w u p A n c a b nm st v) (hb : Below u.heap.size u u') : MSt w u' p A n c a b nm st v := h.grown (grown_of_below hb) (fun k e => by cases e)
theorem MSt.alloc (h : MSt w u p A n c a b nm st v) (o : Obj) : MSt w (u.alloc o) p A n c a b nm st v := h.up ((Below.refl _ _).alloc (Nat.le_refl _) o)
theorem MSt.drew (h : MSt w u p A n c a b nm st v) : MSt w u.drew p A n c a b nm st v := h.up (below_drewN (Below.refl _ _) 1)
theorem MSt.put (h : MSt w u p A n c a b nm st v) : MSt w (u.setCell ⟨b, 2, none⟩ v') p A n c a b nm st v' := by
 obtain ⟨h1, h2, ⟨x, y, z, h3⟩, h4, h5, h6⟩ := h
 have hg : u.grownBy (u.setCell ⟨b, 2, none⟩ v') (some b) := only_set u (p := ⟨b, 2, none⟩) v'
 exact ⟨h1.set_ 2 v', h2.grown hg (fun e => by injection e with e; omega), ⟨x, y, z, h3.grown hg (fun e => by injection e with e; omega)⟩, grow_own h4 hg (fun k e => by injection e with e; omega), h5, h6⟩
theorem own_put {u : World} {b base m d : Nat} {B : Option Addr} {l : List ByteArray} {v' : Value} (ho : Owned strE 1 9 u base B m d l) (hb : b < base) : Owned strE 1 9 (u.setCell ⟨b, 2, none⟩ v') base B m d l :=
 ho.past (only_set u (p := ⟨b, 2, none⟩) v') hb
theorem strs_grown {w w' : World} {b o : Nat} {l : List ByteArray} {row : Option Nat} (h : Strs w (some ⟨b, o, none⟩) l) (hg : w.grownBy w' row) (hne : some b ≠ row) : Strs w' (some ⟨b, o, none⟩) l := by
 refine ⟨h.1, h.2.1, fun hn => ?_⟩
 obtain ⟨b', o', hA, hb, hc⟩ := h.2.2 hn
 injection hA with hA
 injection hA with e1 e2 _
 subst e1 e2
 exact ⟨b, o, rfl, Nat.lt_of_lt_of_le hb hg.size, fun j u hu => (hg.cell_far ⟨b, o + j, none⟩ hb hne).trans (hc j u hu)⟩
end
theorem good_snoc {st : Int} {L : List ByteArray} {x : ByteArray} (h : ∀ y ∈ L, goodChange st y = true) (hx : goodChange st x = true) : ∀ y ∈ L ++ [x], goodChange st y = true := fun y hy => by
 rcases List.mem_append.1 hy with hy | hy
 ·exact h y hy
 ·rw [List.mem_singleton.1 hy]; exact hx
set_option maxHeartbeats 4000000 in
set_option maxRecDepth 100000 in
theorem cur_method {A : Option Addr} {n c a p : Nat} {w0 w : World} (hS : Src w0 A n) (hb : Below w0.heap.size w0 w) (hp : w0.heap.size ≤ p) (hc : Cur w p A n c a) (ha : a ≤ 1000000) :
  Calls Tryz.prog 180 #[.pointer (some ⟨p, 0, none⟩)] w fun e w' => ∃ (nm : ByteArray) (st : Nat) (A' : Option Addr) (m c' : Nat) (L : List ByteArray), e = .returned (.agg #[.string nm, .int .i64 st, .slice A' m c']) ∧ goodM nm st L = true ∧ 3 ≤ st ∧ st ≤ 6 ∧ m ≤ 12 ∧ Owned strE 1 9 w' w.heap.size A' m c' L ∧ Cur w' p A n c (a + 100) ∧ w.grownBy w' (some p) := by
 have hpw := hc.lt
 have R0 := Blk.at_ w 25 [.string ⟨#[]⟩, .int .i64 0, .slice none 0 0] (b := w.heap.size) rfl
 have b0 : Below w.heap.size w (w.alloc (.cells #[.string ⟨#[]⟩, .int .i64 0, .slice none 0 0] 25)) := by (repeat' (first | (with_reducible exact Below.refl _ _) | (with_reducible assumption) | (with_reducible refine below_drewN ?_ _) | (with_reducible refine Below.drew ?_) | (with_reducible refine below_alloc ?_ _) | (with_reducible refine Below.alloc ?_ ?_ _) | (with_reducible refine Below.setCell ?_ ?_ _) | (with_reducible refine below_go ?_ (by with_reducible assumption)) | (with_reducible refine below_then (by with_reducible assumption) ?_ ?_) | go_size))
 have G : Hid (∀ u : World, w.grownBy u (some p) → Below w0.heap.size w0 u) := Lib.hid (fun u hg => grown_below hb hp hg)
 have HS := Lib.hid hS
 clear hS hb
 go_in
 go_wp2_with fail
 obtain ⟨w1, hw1⟩ : ∃ u, u = w.alloc (.cells #[.string ⟨#[]⟩, .int .i64 0, .slice none 0 0] 25) := ⟨_, rfl⟩
 have z1 : w1.heap.size = w.heap.size + 1 := by rw [hw1]; simp
 rw [← hw1] at b0 ⊢
 have R1 : Blk w1 w.heap.size 25 [.string ⟨#[]⟩, .int .i64 0, .slice none 0 0] := by rw [hw1]; exact R0
 clear hw1 R0
 have hl1 := lit_ints w1 3 [4, 4, 5, 6, 6, 3]
 rw [z1] at hl1
 have a1 : ∀ o : Obj, Below w1.heap.size w1 (w1.alloc o) := fun o => (Below.refl _ _).alloc (Nat.le_refl _) o
 refine (cur_among HS.out (G.out _ (grown_any (below_go b0 (a1 _)) _)) hp ((hc.up b0).up (a1 _)) (by omega) rfl hl1 (by decide) (by decide) (fun b o e => by injection e with e; injection e with e; omega)).mono ?_; rintro e w2 ⟨x, hx, rfl, hc2, hg2⟩
 have g2 : w.grownBy w2 (some p) := grownBy_trans (grown_any (below_go b0 (a1 _)) _) hg2
 have R2 := (R1.up (a1 _)).grown hg2 (fun e => by injection e with e; omega)
 have s2 : w.heap.size + 1 ≤ w2.heap.size := by have := hg2.size; simp at this; omega
 simp only [List.mem_cons, List.not_mem_nil, or_false] at hx
 obtain ⟨st, rfl⟩ : ∃ st : Nat, x = (st : Int) := ⟨x.toNat, by omega⟩
 have hst : 3 ≤ st ∧ st ≤ 6 := by omega
 clear hx hl1 a1 hg2 R1 hc b0
 go_wp2_with fail
 have hl2 := lit_strs2 w2 9 [⟨#[97]⟩, ⟨#[112, 108, 97, 105, 110]⟩, ⟨#[98, 111, 98]⟩, ⟨#[108, 105, 116, 116, 108, 101]⟩]
 have a2 : ∀ o : Obj, Below w2.heap.size w2 (w2.alloc o) := fun o => (Below.refl _ _).alloc (Nat.le_refl _) o
 refine (cur_of HS.out (G.out _ (grownBy_trans g2 (grown_any (a2 _) _))) hp (hc2.up (a2 _)) (by omega) rfl hl2 (by decide) (by decide) (fun b o e => by injection e with e; injection e with e; omega)).mono ?_; rintro e w3 ⟨nm, hnm, rfl, hc3, hg3⟩
 have g3 : w.grownBy w3 (some p) := grownBy_trans (grownBy_trans g2 (grown_any (a2 _) _)) hg3
 have R3 := (R2.up (a2 _)).grown hg3 (fun e => by injection e with e; omega)
 have s3 : w.heap.size + 1 ≤ w3.heap.size := by have := hg3.size; simp at this; omega
 have hok : nameOk nm = true := by
  simp only [List.mem_cons, List.not_mem_nil, or_false] at hnm
  rcases hnm with rfl | rfl | rfl | rfl <;> decide +kernel
 clear hnm hl2 a2 hg3 R2 hc2 g2
 have K3 := Blk.at_ w3 25 [.string nm, .int .i64 (st : Int), .slice none 0 0] (b := w3.heap.size) rfl
 have a3 : Below w3.heap.size w3 (w3.alloc (.cells #[.string nm, .int .i64 (st : Int), .slice none 0 0] 25)) := by (repeat' (first | (with_reducible exact Below.refl _ _) | (with_reducible assumption) | (with_reducible refine below_drewN ?_ _) | (with_reducible refine Below.drew ?_) | (with_reducible refine below_alloc ?_ _) | (with_reducible refine Below.alloc ?_ ?_ _) | (with_reducible refine Below.setCell ?_ ?_ _) | (with_reducible refine below_go ?_ (by with_reducible assumption)) | (with_reducible refine below_then (by with_reducible assumption) ?_ ?_) | go_size))
 have M3 : MSt w (w3.alloc (.cells #[.string nm, .int .i64 (st : Int), .slice none 0 0] 25)) p A n c (a + 1 + 1) w3.heap.size nm st (.slice none 0 0) := ⟨K3, hc3.up a3, ⟨_, _, _, R3.up a3⟩, grownBy_trans g3 (grown_any a3 _), hpw, by omega⟩
 have fin : Hid (∀ (u v : World) (A' : Option Addr) (m c' : Nat) (L : List ByteArray), w.grownBy u (some p) → Cur u p A n c (a + 90) → Owned strE 1 9 u (w3.heap.size + 1) A' m c' L → 1 ≤ m → m ≤ 12 → (∀ x ∈ L, goodChange st x = true) → u.grownBy v (some w.heap.size) → ∃ (nm' : ByteArray) (st' : Nat) (A'' : Option Addr) (m' c'' : Nat) (L' : List ByteArray), Ending.returned (Value.agg #[.string nm, .int .i64 (st : Int), .slice A' m c']) = .returned (.agg #[.string nm', .int .i64 (st' : Int), .slice A'' m' c'']) ∧ goodM nm' st' L' = true ∧ 3 ≤ st' ∧ st' ≤ 6 ∧ m' ≤ 12 ∧ Owned strE 1 9 v w.heap.size A'' m' c'' L' ∧ Cur v p A n c (a + 100) ∧ w.grownBy v (some p)) := Lib.hid (fun u v A' m c' L h1 h2 h3 h4 h5 h6 h7 =>
  ⟨nm, st, A', m, c', L, rfl, goodM_of hok hst.1 (by omega) (by rw [h3.len]; exact h4) (by rw [h3.len]; omega) h6, hst.1, hst.2, h5, (h3.past h7 (by omega)).base_le (by omega), (h2.grown h7 (fun e => by injection e with e; omega)).mono (by omega), grow_own h1 h7 (fun k e => by injection e with e; omega)⟩)
 clear K3 a3 R3 g3 hc3
 by_cases h4 : 4 ≤ st
 ·have hI4 : (4 : Int) ≤ (st : Int) := by omega
  go_wp2_with fail
  obtain ⟨w4, hw4⟩ : ∃ u, u = w3.alloc (.cells #[.string nm, .int .i64 (st : Int), .slice none 0 0] 25) := ⟨_, rfl⟩
  rw [← hw4] at M3 ⊢
  clear hw4
  refine (cur_one HS.out (G.out _ M3.2.2.2.1) hp M3.2.1 (by omega) (by decide) (by decide)).mono ?_; rintro e w5 ⟨b1, rfl, hc5, hg5⟩
  have HM5 := Lib.hid (M3.draw hg5 hc5)
  clear hc5 hg5 M3
  rcases b1
  ·skip
   go_wp2_with fail
   refine (cur_one HS.out (G.out _ HM5.out.2.2.2.1) hp HM5.out.2.1 (by omega) (by decide) (by decide)).mono ?_; rintro e w6 ⟨b2, rfl, hc6, hg6⟩
   have HM6 := Lib.hid (HM5.out.draw hg6 hc6)
   clear hc6 hg6
   rcases b2
   ·go_wp2_with fail
    refine (cur_pick HS.out (G.out _ HM6.out.2.2.2.1) hp HM6.out.2.1 (by omega) (by decide) (by decide)).mono ?_; rintro e w7 ⟨x, rfl, ⟨x0, x1⟩, hc7, hg7⟩
    have HM7 := Lib.hid (HM6.out.draw hg7 hc7)
    obtain ⟨X, rfl⟩ := Int.eq_ofNat_of_zero_le x0
    have hX : X ≤ 7 := by omega
    clear hc7 hg7 x0 x1
    go_wp2
    go_loopw [9] (fun i wr => ∃ (k m : Nat) (A' : Option Addr) (c' : Nat) (L : List ByteArray), k + m = X + 1 ∧ i = .int .i64 k ∧ Hid (MSt w wr p A n c (a + 10 + m) w3.heap.size nm st (.slice A' m c')) ∧ Hid (Owned strE 1 9 wr (w3.heap.size + 1) A' m c' L) ∧ Hid (∀ x ∈ L, goodChange st x = true) ∧ w3.heap.size < wr.heap.size) (fun i _ => (intOf i).toNat)
    case atStart => exact ⟨X + 1, 0, none, 0, [], rfl, by go_num, Lib.hid (HM7.out.mono (by omega)), Lib.hid (Owned.nil strE_len _ _ _), Lib.hid (fun s hs => by cases hs), HM7.out.1.lt⟩
    case round =>
     obtain ⟨k, m, A2, c2, L, hkm, rfl, HM, HO, HZ, hbr⟩ := hrel
     rename World => wr
     by_cases h0 : 0 < k
     ·have hI : (0 : Int) < (k : Int) := by omega
      have hOl := HO.out.len
      go_upto_region 6 with fail
      obtain ⟨K1, _, _, _, K5, K6⟩ := HM.out
      have d2 := K1.cell 2; have e2 := K1.frozen 2
      simp only [List.getElem?_cons_zero, List.getElem?_cons_succ] at d2
      clear K1
      refine wp_region_any (by kernel_rfl) ?_
      (try (change wpAny _ _ _ _ _ _ _ (World.drew _)))
      refine wpAny_take (i := 0) (oi := { dst := some 25, op := _, type := _, pos := _, after := _, guard := _ }) (v := ?_) rfl (by kernel_rfl) (by kernel_rfl) (by kernel_rfl) (fun _ _ _ h => h) (Or.inl ⟨by rfl, ?_⟩) ?_
      rotate_left
      ·(intro w; go_simp) <;> with_reducible rfl
      (try simp only [Act.put, List.setIfInBounds_toArray, List.set_cons_zero, List.set_cons_succ])
      refine wpAny_take (i := 2) (oi := { dst := some 27, op := _, type := _, pos := _, after := _, guard := _ }) (v := ?_) rfl (by kernel_rfl) (by kernel_rfl) (by kernel_rfl) (fun _ _ _ h => h) (Or.inl ⟨by rfl, ?_⟩) ?_
      rotate_left
      ·(intro w; go_simp) <;> with_reducible rfl
      (try simp only [Act.put, List.setIfInBounds_toArray, List.set_cons_zero, List.set_cons_succ])
      refine wpAny_take (i := 3) (oi := { dst := some 28, op := _, type := _, pos := _, after := _, guard := _ }) (v := ?_) rfl (by kernel_rfl) (by kernel_rfl) (by kernel_rfl) (fun _ _ _ h => h) (Or.inl ⟨by rfl, ?_⟩) ?_
      rotate_left
      ·(intro w; go_simp) <;> with_reducible rfl
      (try simp only [Act.put, List.setIfInBounds_toArray, List.set_cons_zero, List.set_cons_succ])
      refine wpAny_ready (rs := [1, 4]) (by kernel_rfl) (by simp) ?_
      refine AllReady.cons (o := _) rfl (fun K hK => ?_) (AllReady.cons (o := _) rfl (fun K hK => ?_) (AllReady.nil))
      ·go_simp
       (try (refine hK _ _ ?_; clear hK K))
       (try simp only [Act.put, List.setIfInBounds_toArray, List.set_cons_zero, List.set_cons_succ])
       refine wpAny_ready (rs := [4]) (by kernel_rfl) (by simp) ?_
       refine AllReady.cons (o := _) rfl (fun K hK => ?_) (AllReady.nil)
       go_simp
       refine (cur_change HS.out (G.out _ HM.out.drew.2.2.2.1) hp HM.out.drew.2.1 (by omega) (by omega) (by omega)).mono ?_; rintro e w8 ⟨x8, rfl, gx8, zx8, hc8, hg8⟩
       have HM8 := Lib.hid (HM.out.drew.draw hg8 hc8)
       have HO8 := Lib.hid ((HO.out.up (below_drewN (Below.refl _ _) 1)).past hg8 (by omega))
       have d3 := HM8.out.1.cell 2
       simp only [List.getElem?_cons_zero, List.getElem?_cons_succ] at d3
       have d4 := (HM8.out.alloc (.cells #[.string x8] 9)).1.cell 2
       simp only [List.getElem?_cons_zero, List.getElem?_cons_succ] at d4
       try go_wp2_with fail
       (try (refine hK _ _ ?_; clear hK K))
       (try simp only [Act.put, List.setIfInBounds_toArray, List.set_cons_zero, List.set_cons_succ])
       refine wpAny_ready (rs := [5]) (by kernel_rfl) (by simp) ?_
       refine AllReady.cons (o := _) rfl (fun K hK => ?_) (AllReady.nil)
       go_simp
       (try (refine hK _ _ ?_; clear hK K))
       (try simp only [Act.put, List.setIfInBounds_toArray, List.set_cons_zero, List.set_cons_succ])
       refine wpAny_ready (rs := [6]) (by kernel_rfl) (by simp) ?_
       refine AllReady.cons (o := _) rfl (fun K hK => ?_) (AllReady.nil)
       refine step_append_rec Tryz.elStr (by rfl) _ _ (by rfl) (by rfl) (HO8.out.alloc _) x8 (by rfl) (Box.at_ _ [.string x8] _ (by rfl)) (strE_one _) (by omega) (by decide) (by have h1 := HM8.out.1.lt; have h2 := hg8.size; simp at h2 ⊢; omega) ?_
       intro A3 c3 w9 ho9 hg9 hb9
       have HM9 := Lib.hid ((HM8.out.alloc (.cells #[.string x8] 9)).grown hg9 (fun k hk => by have := (HO8.out.blk hk).1; omega))
       have d5 := HM9.out.1.cell 2; have e5 := HM9.out.1.frozen 2
       simp only [List.getElem?_cons_zero, List.getElem?_cons_succ] at d5
       (try (refine hK _ _ ?_; clear hK K))
       (try simp only [Act.put, List.setIfInBounds_toArray, List.set_cons_zero, List.set_cons_succ])
       refine wpAny_ready (rs := [7]) (by kernel_rfl) (by simp) ?_
       refine AllReady.cons (o := _) rfl (fun K hK => ?_) (AllReady.nil)
       go_simp
       (try (refine hK _ _ ?_; clear hK K))
       (try simp only [Act.put, List.setIfInBounds_toArray, List.set_cons_zero, List.set_cons_succ])
       refine wpAny_ready (rs := [8]) (by kernel_rfl) (by simp) ?_
       refine AllReady.cons (o := _) rfl (fun K hK => ?_) (AllReady.nil)
       go_simp
       (try (refine hK _ _ ?_; clear hK K))
       (try simp only [Act.put, List.setIfInBounds_toArray, List.set_cons_zero, List.set_cons_succ])
       refine wpAny_done (by kernel_rfl) ?_ _
       (try simp only [Act.put, List.setIfInBounds_toArray, List.set_cons_zero, List.set_cons_succ])
       have HZ9 := Lib.hid (good_snoc HZ.out gx8)
       have HMF := Lib.hid (HM9.out.put (v' := .slice A3 (m + 1) c3))
       have HOF := Lib.hid (own_put (b := w3.heap.size) (v' := .slice A3 (m + 1) c3) ho9 (by omega))
       clear d2 d3 d4 d5 e2 e5
       go_wp2
       go_roundw
       case rel => exact ⟨k - 1, m + 1, A3, c3, L ++ [x8], by omega, by go_num, Lib.hid (HMF.out.mono (by omega)), HOF, HZ9, HMF.out.1.lt⟩
       case measure => simp [intOf]; omega
      ·go_simp
       refine (cur_change HS.out (G.out _ HM.out.drew.2.2.2.1) hp HM.out.drew.2.1 (by omega) (by omega) (by omega)).mono ?_; rintro e w8 ⟨x8, rfl, gx8, zx8, hc8, hg8⟩
       have HM8 := Lib.hid (HM.out.drew.draw hg8 hc8)
       have HO8 := Lib.hid ((HO.out.up (below_drewN (Below.refl _ _) 1)).past hg8 (by omega))
       have d3 := HM8.out.1.cell 2
       simp only [List.getElem?_cons_zero, List.getElem?_cons_succ] at d3
       have d4 := (HM8.out.alloc (.cells #[.string x8] 9)).1.cell 2
       simp only [List.getElem?_cons_zero, List.getElem?_cons_succ] at d4
       try go_wp2_with fail
       (try (refine hK _ _ ?_; clear hK K))
       (try simp only [Act.put, List.setIfInBounds_toArray, List.set_cons_zero, List.set_cons_succ])
       refine wpAny_ready (rs := [1, 5]) (by kernel_rfl) (by simp) ?_
       refine AllReady.cons (o := _) rfl (fun K hK => ?_) (AllReady.cons (o := _) rfl (fun K hK => ?_) (AllReady.nil))
       ·go_simp
        (try (refine hK _ _ ?_; clear hK K))
        (try simp only [Act.put, List.setIfInBounds_toArray, List.set_cons_zero, List.set_cons_succ])
        refine wpAny_ready (rs := [5]) (by kernel_rfl) (by simp) ?_
        refine AllReady.cons (o := _) rfl (fun K hK => ?_) (AllReady.nil)
        go_simp
        (try (refine hK _ _ ?_; clear hK K))
        (try simp only [Act.put, List.setIfInBounds_toArray, List.set_cons_zero, List.set_cons_succ])
        refine wpAny_ready (rs := [6]) (by kernel_rfl) (by simp) ?_
        refine AllReady.cons (o := _) rfl (fun K hK => ?_) (AllReady.nil)
        refine step_append_rec Tryz.elStr (by rfl) _ _ (by rfl) (by rfl) (HO8.out.alloc _) x8 (by rfl) (Box.at_ _ [.string x8] _ (by rfl)) (strE_one _) (by omega) (by decide) (by have h1 := HM8.out.1.lt; have h2 := hg8.size; simp at h2 ⊢; omega) ?_
        intro A3 c3 w9 ho9 hg9 hb9
        have HM9 := Lib.hid ((HM8.out.alloc (.cells #[.string x8] 9)).grown hg9 (fun k hk => by have := (HO8.out.blk hk).1; omega))
        have d5 := HM9.out.1.cell 2; have e5 := HM9.out.1.frozen 2
        simp only [List.getElem?_cons_zero, List.getElem?_cons_succ] at d5
        (try (refine hK _ _ ?_; clear hK K))
        (try simp only [Act.put, List.setIfInBounds_toArray, List.set_cons_zero, List.set_cons_succ])
        refine wpAny_ready (rs := [7]) (by kernel_rfl) (by simp) ?_
        refine AllReady.cons (o := _) rfl (fun K hK => ?_) (AllReady.nil)
        go_simp
        (try (refine hK _ _ ?_; clear hK K))
        (try simp only [Act.put, List.setIfInBounds_toArray, List.set_cons_zero, List.set_cons_succ])
        refine wpAny_ready (rs := [8]) (by kernel_rfl) (by simp) ?_
        refine AllReady.cons (o := _) rfl (fun K hK => ?_) (AllReady.nil)
        go_simp
        (try (refine hK _ _ ?_; clear hK K))
        (try simp only [Act.put, List.setIfInBounds_toArray, List.set_cons_zero, List.set_cons_succ])
        refine wpAny_done (by kernel_rfl) ?_ _
        (try simp only [Act.put, List.setIfInBounds_toArray, List.set_cons_zero, List.set_cons_succ])
        have HZ9 := Lib.hid (good_snoc HZ.out gx8)
        have HMF := Lib.hid (HM9.out.put (v' := .slice A3 (m + 1) c3))
        have HOF := Lib.hid (own_put (b := w3.heap.size) (v' := .slice A3 (m + 1) c3) ho9 (by omega))
        clear d2 d3 d4 d5 e2 e5
        go_wp2
        go_roundw
        case rel => exact ⟨k - 1, m + 1, A3, c3, L ++ [x8], by omega, by go_num, Lib.hid (HMF.out.mono (by omega)), HOF, HZ9, HMF.out.1.lt⟩
        case measure => simp [intOf]; omega
       ·go_simp
        (try (refine hK _ _ ?_; clear hK K))
        (try simp only [Act.put, List.setIfInBounds_toArray, List.set_cons_zero, List.set_cons_succ])
        refine wpAny_ready (rs := [1]) (by kernel_rfl) (by simp) ?_
        refine AllReady.cons (o := _) rfl (fun K hK => ?_) (AllReady.nil)
        go_simp
        (try (refine hK _ _ ?_; clear hK K))
        (try simp only [Act.put, List.setIfInBounds_toArray, List.set_cons_zero, List.set_cons_succ])
        refine wpAny_ready (rs := [6]) (by kernel_rfl) (by simp) ?_
        refine AllReady.cons (o := _) rfl (fun K hK => ?_) (AllReady.nil)
        refine step_append_rec Tryz.elStr (by rfl) _ _ (by rfl) (by rfl) (HO8.out.alloc _) x8 (by rfl) (Box.at_ _ [.string x8] _ (by rfl)) (strE_one _) (by omega) (by decide) (by have h1 := HM8.out.1.lt; have h2 := hg8.size; simp at h2 ⊢; omega) ?_
        intro A3 c3 w9 ho9 hg9 hb9
        have HM9 := Lib.hid ((HM8.out.alloc (.cells #[.string x8] 9)).grown hg9 (fun k hk => by have := (HO8.out.blk hk).1; omega))
        have d5 := HM9.out.1.cell 2; have e5 := HM9.out.1.frozen 2
        simp only [List.getElem?_cons_zero, List.getElem?_cons_succ] at d5
        (try (refine hK _ _ ?_; clear hK K))
        (try simp only [Act.put, List.setIfInBounds_toArray, List.set_cons_zero, List.set_cons_succ])
        refine wpAny_ready (rs := [7]) (by kernel_rfl) (by simp) ?_
        refine AllReady.cons (o := _) rfl (fun K hK => ?_) (AllReady.nil)
        go_simp
        (try (refine hK _ _ ?_; clear hK K))
        (try simp only [Act.put, List.setIfInBounds_toArray, List.set_cons_zero, List.set_cons_succ])
        refine wpAny_ready (rs := [8]) (by kernel_rfl) (by simp) ?_
        refine AllReady.cons (o := _) rfl (fun K hK => ?_) (AllReady.nil)
        go_simp
        (try (refine hK _ _ ?_; clear hK K))
        (try simp only [Act.put, List.setIfInBounds_toArray, List.set_cons_zero, List.set_cons_succ])
        refine wpAny_done (by kernel_rfl) ?_ _
        (try simp only [Act.put, List.setIfInBounds_toArray, List.set_cons_zero, List.set_cons_succ])
        have HZ9 := Lib.hid (good_snoc HZ.out gx8)
        have HMF := Lib.hid (HM9.out.put (v' := .slice A3 (m + 1) c3))
        have HOF := Lib.hid (own_put (b := w3.heap.size) (v' := .slice A3 (m + 1) c3) ho9 (by omega))
        clear d2 d3 d4 d5 e2 e5
        go_wp2
        go_roundw
        case rel => exact ⟨k - 1, m + 1, A3, c3, L ++ [x8], by omega, by go_num, Lib.hid (HMF.out.mono (by omega)), HOF, HZ9, HMF.out.1.lt⟩
        case measure => simp [intOf]; omega
     ·obtain rfl : k = 0 := by omega
      have hOl := HO.out.len
      obtain ⟨K1, K2, ⟨rx, ry, rz, K3⟩, K4, K5, K6⟩ := HM.out
      have kc0 := K1.cell 0; have kc1 := K1.cell 1; have kc2 := K1.cell 2
      have kd0 := K3.cell 0; have kd1 := K3.cell 1; have kd2 := K3.cell 2
      have kf0 := K3.frozen 0; have kf1 := K3.frozen 1; have kf2 := K3.frozen 2
      simp only [List.getElem?_cons_zero, List.getElem?_cons_succ] at kc0 kc1 kc2 kd0 kd1 kd2
      have Z := ((K3.set_ 0 (.string nm)).set_ 1 (.int .i64 (st : Int))).set_ 2 (.slice A2 (m) c2)
      have y0 := Z.cell 0; have y1 := Z.cell 1; have y2 := Z.cell 2
      simp only [List.set_cons_zero, List.set_cons_succ, List.getElem?_cons_zero, List.getElem?_cons_succ] at y0 y1 y2
      have HK := Lib.hid K2; have HGR := Lib.hid K4
      clear K1 K2 K3 K4 Z
      go_wp2_with fail
      refine bodyPost_ret (v := .agg #[.string nm, .int .i64 (st : Int), .slice A2 (m) c2]) (by simp [results, Tryz.results180, go_sem, y0, y1, y2]) rfl ?_
      exact fin.out _ _ _ _ _ _ HGR.out (HK.out.mono (by omega)) HO.out (by omega) (by omega) HZ.out (grownBy_trans (grownBy_trans (only_set _ (p := ⟨w.heap.size, 0, none⟩) _) (only_set _ (p := ⟨w.heap.size, 1, none⟩) _)) (only_set _ (p := ⟨w.heap.size, 2, none⟩) _))
   ·go_wp2_with fail
    refine (cur_pick HS.out (G.out _ HM6.out.2.2.2.1) hp HM6.out.2.1 (by omega) (by decide) (by decide)).mono ?_; rintro e w7 ⟨x, rfl, ⟨x0, x1⟩, hc7, hg7⟩
    have HM7 := Lib.hid (HM6.out.draw hg7 hc7)
    obtain ⟨X, rfl⟩ := Int.eq_ofNat_of_zero_le x0
    have hX : X ≤ 3 := by omega
    clear hc7 hg7 x0 x1
    go_wp2
    go_loopw [6, 7] (fun v i wr => ∃ (k m : Nat) (A' : Option Addr) (c' : Nat) (H : List ByteArray), k + m = X + 1 ∧ i = .int .i64 k ∧ v = .slice A' m c' ∧ Hid (MSt w wr p A n c (a + 10 + m) w3.heap.size nm st (.slice none 0 0)) ∧ Hid (Owned strE 1 9 wr (w3.heap.size + 1) A' m c' H) ∧ Hid (∀ x ∈ H, goodChange st x = true) ∧ w3.heap.size < wr.heap.size) (fun _ i _ => (intOf i).toNat)
    case atStart => exact ⟨X + 1, 0, none, 0, [], rfl, by go_num, rfl, Lib.hid (HM7.out.mono (by omega)), Lib.hid (Owned.nil strE_len _ _ _), Lib.hid (fun s hs => by cases hs), HM7.out.1.lt⟩
    case round =>
     obtain ⟨k, m, A2, c2, H, hkm, rfl, rfl, HM, HO, HZ, hbr⟩ := hrel
     rename World => wr
     by_cases h0 : 0 < k
     ·have hI : (0 : Int) < (k : Int) := by omega
      have hOl := HO.out.len
      go_wp2_with fail
      refine (cur_change HS.out (G.out _ HM.out.2.2.2.1) hp HM.out.2.1 (by omega) (by omega) (by omega)).mono ?_; rintro e w8 ⟨x8, rfl, gx8, zx8, hc8, hg8⟩
      have HM8 := Lib.hid (HM.out.draw hg8 hc8)
      have HO8 := Lib.hid (HO.out.past hg8 (by have := HM.out.2.2.2.2; omega))
      have hs8 := HM8.out.1.lt
      have HZ9 := Lib.hid (good_snoc HZ.out gx8)
      clear hc8 hg8
      go_wp2_with (first | (at_builtin; go_must ((refine wpList_append_recs Tryz.elStr strE_one rfl (.tmp 60) (.tmp 64) rfl rfl (HO8.out.alloc _) rfl (own_lit1_at' strE_len _ 9 x8 rfl (Nat.le_refl _)).recs rfl ?_ (by decide) ?_ ?_; (focus (first | omega | (simp only [World.size_alloc]; done) | (simp only [World.size_alloc]; omega) | (simp; done) | (simp; omega))); (simp; omega); intro A3 c3 w9 ho9 hg9 hl9; have HM9 := Lib.hid ((HM8.out.alloc (.cells ⟨[Value.string x8]⟩ 9)).grown hg9 (fun k hk => by have := (HO8.out.blk hk).1; omega))))))
      go_roundw
      case rel => exact ⟨k - 1, m + 1, A3, c3, H ++ [x8], by omega, by go_num, rfl, Lib.hid (HM9.out.mono (by omega)), Lib.hid ho9, HZ9, HM9.out.1.lt⟩
      case measure => simp [intOf]; omega
     ·obtain rfl : k = 0 := by omega
      have hHl := HO.out.len
      obtain ⟨gH, rfl, gH0, gH1, _, _⟩ := HO.out.at_ (by omega)
      have HR := Lib.hid HO.out.recs
      have HG := Lib.hid HZ.out
      go_wp2_with fail
      refine (spec_l1OwnS hHl HR.out (by omega)).mono ?_; rintro e w8 ⟨A3, c3, rfl, ho3, hb3⟩
      have HM3 := Lib.hid (HM.out.up hb3)
      have HR3 := Lib.hid (HR.out.up hb3)
      have hs3 := hb3.size
      clear hb3
      go_wp2_with fail
      refine (cur_change HS.out (G.out _ HM3.out.2.2.2.1) hp HM3.out.2.1 (by omega) (by omega) (by omega)).mono ?_; rintro e w9 ⟨x9, rfl, gx9, zx9, hc9, hg9⟩
      have hpb := HM3.out.2.2.2.2
      have HM4 := Lib.hid (HM3.out.draw hg9 hc9)
      have HO4 := Lib.hid (ho3.past hg9 (by omega))
      have HR4 := Lib.hid (strs_grown HR3.out hg9 (fun e => by injection e with e; omega))
      have hs9 := hg9.size
      have HZ4 := Lib.hid (good_snoc HZ.out gx9)
      have HML := Lib.hid (HM4.out.alloc (.cells ⟨[Value.string x9]⟩ 9))
      have HRL := Lib.hid (HR4.out.alloc (.cells ⟨[Value.string x9]⟩ 9))
      have hs9' : wr.heap.size ≤ (w9.alloc (.cells ⟨[Value.string x9]⟩ 9)).heap.size := by simp; omega
      obtain ⟨wb, hwb⟩ : ∃ b, b = wr.heap.size := ⟨_, rfl⟩
      rw [← hwb] at ho3 HO4 gH1 hs3 hs9' 
      clear hc9 hg9 ho3 HM3 HR3
      go_wp2_with (first | (at_builtin; go_must ((refine wpList_append_recs Tryz.elStr strE_one rfl (.tmp 67) (.tmp 71) rfl rfl (HO4.out.alloc _) rfl (own_lit1_at' strE_len _ 9 x9 rfl (Nat.le_refl _)).recs rfl ?_ (by decide) ?_ ?_; (focus (first | omega | (simp only [World.size_alloc]; done) | (simp only [World.size_alloc]; omega) | (simp; done) | (simp; omega))); (simp; omega); intro A5 c5 w10 ho5 hg5 hl5; have HM5 := Lib.hid (HML.out.grown hg5 (fun k hk => by have := (HO4.out.blk hk).1; omega)); have HR5 := Lib.hid (strs_grown HRL.out hg5 (fun e => by have := (HO4.out.blk e.symm).1; omega)); have g2 := HM5.out.1.cell 2; have e2 := HM5.out.1.frozen 2; simp only [List.getElem?_cons_zero, List.getElem?_cons_succ] at g2; have HMF := Lib.hid (HM5.out.put (v' := .slice A5 (m + 1) c5)); have HOF := Lib.hid (own_put (b := w3.heap.size) (v' := .slice A5 (m + 1) c5) ho5 (by omega)); have HRF := Lib.hid (strs_grown HR5.out (only_set w10 (p := ⟨w3.heap.size, 2, none⟩) (.slice A5 (m + 1) c5)) (fun e => by injection e with e; dsimp only at e; omega))))))
      obtain ⟨w11, hw11⟩ : ∃ u, u = w10.setCell ⟨w3.heap.size, 2, none⟩ (.slice A5 (m + 1) c5) := ⟨_, rfl⟩
      rw [← hw11] at HMF HOF HRF ⊢
      have hB4 : w3.heap.size < wb := by omega
      have hs11 : wb ≤ w11.heap.size := by have := hg5.size; rw [hw11]; simp at this ⊢; omega
      clear hw11 ho5 hg5 hl5 HM5 HR5 g2 e2 HM4 HO4 HR4 HML HRL
      go_wp2
      go_loopw [8] (fun i wr => ∃ (k q : Nat) (A' : Option Addr) (c' : Nat) (L : List ByteArray), k + q = m ∧ i = .int .i64 ((k : Int) - 1) ∧ Hid (MSt w wr p A n c (a + 20 + m) w3.heap.size nm st (.slice A' (m + 1 + q) c')) ∧ Hid (Owned strE 1 9 wr wb A' (m + 1 + q) c' L) ∧ Hid (∀ x ∈ L, goodChange st x = true) ∧ Hid (Strs wr (some ⟨gH, 0, none⟩) H) ∧ wb ≤ wr.heap.size) (fun i _ => (intOf i + 1).toNat)
      case atStart => exact ⟨m, 0, A5, c5, H ++ [x9], rfl, by go_num, Lib.hid (HMF.out.mono (by omega)), HOF, HZ4, HRF, hs11⟩
      case round =>
       obtain ⟨k, q, A2, c2, L, hkq, rfl, HM, HO, HZ, HR, hsr⟩ := hrel
       rename World => wr
       have hOl := HO.out.len
       rcases k with _ | k
       ·rw [show (((0 : Nat) : Int) - 1) = -1 by omega]
        obtain rfl : q = m := by omega
        go_upto_region 23 with fail
        obtain ⟨K1, _, _, _, K5, K6⟩ := HM.out
        have d2 := K1.cell 2; have e2 := K1.frozen 2
        simp only [List.getElem?_cons_zero, List.getElem?_cons_succ] at d2
        clear K1
        refine wp_region_any (by kernel_rfl) ?_
        (try (change wpAny _ _ _ _ _ _ _ (World.drew _)))
        refine wpAny_take (i := 0) (oi := { dst := some 90, op := _, type := _, pos := _, after := _, guard := _ }) (v := ?_) rfl (by kernel_rfl) (by kernel_rfl) (by kernel_rfl) (fun _ _ _ h => h) (Or.inl ⟨by rfl, ?_⟩) ?_
        rotate_left
        ·(intro w; go_simp) <;> with_reducible rfl
        (try simp only [Act.put, List.setIfInBounds_toArray, List.set_cons_zero, List.set_cons_succ])
        refine wpAny_take (i := 2) (oi := { dst := some 92, op := _, type := _, pos := _, after := _, guard := _ }) (v := ?_) rfl (by kernel_rfl) (by kernel_rfl) (by kernel_rfl) (fun _ _ _ h => h) (Or.inl ⟨by rfl, ?_⟩) ?_
        rotate_left
        ·(intro w; go_simp) <;> with_reducible rfl
        (try simp only [Act.put, List.setIfInBounds_toArray, List.set_cons_zero, List.set_cons_succ])
        refine wpAny_take (i := 3) (oi := { dst := some 93, op := _, type := _, pos := _, after := _, guard := _ }) (v := ?_) rfl (by kernel_rfl) (by kernel_rfl) (by kernel_rfl) (fun _ _ _ h => h) (Or.inl ⟨by rfl, ?_⟩) ?_
        rotate_left
        ·(intro w; go_simp) <;> with_reducible rfl
        (try simp only [Act.put, List.setIfInBounds_toArray, List.set_cons_zero, List.set_cons_succ])
        refine wpAny_ready (rs := [1, 4]) (by kernel_rfl) (by simp) ?_
        refine AllReady.cons (o := _) rfl (fun K hK => ?_) (AllReady.cons (o := _) rfl (fun K hK => ?_) (AllReady.nil))
        ·go_simp
         (try (refine hK _ _ ?_; clear hK K))
         (try simp only [Act.put, List.setIfInBounds_toArray, List.set_cons_zero, List.set_cons_succ])
         refine wpAny_ready (rs := [4]) (by kernel_rfl) (by simp) ?_
         refine AllReady.cons (o := _) rfl (fun K hK => ?_) (AllReady.nil)
         go_simp
         refine (cur_change HS.out (G.out _ HM.out.drew.2.2.2.1) hp HM.out.drew.2.1 (by omega) (by omega) (by omega)).mono ?_; rintro e w8 ⟨x8, rfl, gx8, zx8, hc8, hg8⟩
         have HM8 := Lib.hid (HM.out.drew.draw hg8 hc8)
         have HO8 := Lib.hid ((HO.out.up (below_drewN (Below.refl _ _) 1)).past hg8 (by omega))
         have d3 := HM8.out.1.cell 2
         simp only [List.getElem?_cons_zero, List.getElem?_cons_succ] at d3
         have d4 := (HM8.out.alloc (.cells #[.string x8] 9)).1.cell 2
         simp only [List.getElem?_cons_zero, List.getElem?_cons_succ] at d4
         try go_wp2_with fail
         (try (refine hK _ _ ?_; clear hK K))
         (try simp only [Act.put, List.setIfInBounds_toArray, List.set_cons_zero, List.set_cons_succ])
         refine wpAny_ready (rs := [5]) (by kernel_rfl) (by simp) ?_
         refine AllReady.cons (o := _) rfl (fun K hK => ?_) (AllReady.nil)
         go_simp
         (try (refine hK _ _ ?_; clear hK K))
         (try simp only [Act.put, List.setIfInBounds_toArray, List.set_cons_zero, List.set_cons_succ])
         refine wpAny_ready (rs := [6]) (by kernel_rfl) (by simp) ?_
         refine AllReady.cons (o := _) rfl (fun K hK => ?_) (AllReady.nil)
         refine step_append_rec Tryz.elStr (by rfl) _ _ (by rfl) (by rfl) (HO8.out.alloc _) x8 (by rfl) (Box.at_ _ [.string x8] _ (by rfl)) (strE_one _) (by omega) (by decide) (by have h1 := HM8.out.1.lt; have h2 := hg8.size; simp at h2 ⊢; omega) ?_
         intro A3 c3 w9 ho9 hg9 hb9
         have HM9 := Lib.hid ((HM8.out.alloc (.cells #[.string x8] 9)).grown hg9 (fun k hk => by have := (HO8.out.blk hk).1; omega))
         have d5 := HM9.out.1.cell 2; have e5 := HM9.out.1.frozen 2
         simp only [List.getElem?_cons_zero, List.getElem?_cons_succ] at d5
         (try (refine hK _ _ ?_; clear hK K))
         (try simp only [Act.put, List.setIfInBounds_toArray, List.set_cons_zero, List.set_cons_succ])
         refine wpAny_ready (rs := [7]) (by kernel_rfl) (by simp) ?_
         refine AllReady.cons (o := _) rfl (fun K hK => ?_) (AllReady.nil)
         go_simp
         (try (refine hK _ _ ?_; clear hK K))
         (try simp only [Act.put, List.setIfInBounds_toArray, List.set_cons_zero, List.set_cons_succ])
         refine wpAny_ready (rs := [8]) (by kernel_rfl) (by simp) ?_
         refine AllReady.cons (o := _) rfl (fun K hK => ?_) (AllReady.nil)
         go_simp
         (try (refine hK _ _ ?_; clear hK K))
         (try simp only [Act.put, List.setIfInBounds_toArray, List.set_cons_zero, List.set_cons_succ])
         refine wpAny_done (by kernel_rfl) ?_ _
         (try simp only [Act.put, List.setIfInBounds_toArray, List.set_cons_zero, List.set_cons_succ])
         have HZ := Lib.hid (good_snoc HZ.out gx8)
         have HM := Lib.hid (HM9.out.put (v' := .slice A3 (q + 1 + q + 1) c3))
         have HO := Lib.hid ((own_put (b := w3.heap.size) (v' := .slice A3 (q + 1 + q + 1) c3) ho9 (by omega)).base_le (show w3.heap.size + 1 ≤ wb by omega))
         clear d2 d3 d4 d5 e2 e5 HM8 HO8 HM9 ho9 hg9 hb9 hc8 hg8 K5 K6
         obtain ⟨K1, K2, ⟨rx, ry, rz, K3⟩, K4, K5, K6⟩ := HM.out
         have kc0 := K1.cell 0; have kc1 := K1.cell 1; have kc2 := K1.cell 2
         have kd0 := K3.cell 0; have kd1 := K3.cell 1; have kd2 := K3.cell 2
         have kf0 := K3.frozen 0; have kf1 := K3.frozen 1; have kf2 := K3.frozen 2
         simp only [List.getElem?_cons_zero, List.getElem?_cons_succ] at kc0 kc1 kc2 kd0 kd1 kd2
         have Z := ((K3.set_ 0 (.string nm)).set_ 1 (.int .i64 (st : Int))).set_ 2 (.slice A3 (q + 1 + q + 1) c3)
         have y0 := Z.cell 0; have y1 := Z.cell 1; have y2 := Z.cell 2
         simp only [List.set_cons_zero, List.set_cons_succ, List.getElem?_cons_zero, List.getElem?_cons_succ] at y0 y1 y2
         have HK := Lib.hid K2; have HGR := Lib.hid K4
         clear K1 K2 K3 K4 Z
         go_wp2_with fail
         refine bodyPost_ret (v := .agg #[.string nm, .int .i64 (st : Int), .slice A3 (q + 1 + q + 1) c3]) (by simp [results, Tryz.results180, go_sem, y0, y1, y2]) rfl ?_
         exact fin.out _ _ _ _ _ _ HGR.out (HK.out.mono (by omega)) HO.out (by omega) (by omega) HZ.out (grownBy_trans (grownBy_trans (only_set _ (p := ⟨w.heap.size, 0, none⟩) _) (only_set _ (p := ⟨w.heap.size, 1, none⟩) _)) (only_set _ (p := ⟨w.heap.size, 2, none⟩) _))
        ·go_simp
         refine (cur_change HS.out (G.out _ HM.out.drew.2.2.2.1) hp HM.out.drew.2.1 (by omega) (by omega) (by omega)).mono ?_; rintro e w8 ⟨x8, rfl, gx8, zx8, hc8, hg8⟩
         have HM8 := Lib.hid (HM.out.drew.draw hg8 hc8)
         have HO8 := Lib.hid ((HO.out.up (below_drewN (Below.refl _ _) 1)).past hg8 (by omega))
         have d3 := HM8.out.1.cell 2
         simp only [List.getElem?_cons_zero, List.getElem?_cons_succ] at d3
         have d4 := (HM8.out.alloc (.cells #[.string x8] 9)).1.cell 2
         simp only [List.getElem?_cons_zero, List.getElem?_cons_succ] at d4
         try go_wp2_with fail
         (try (refine hK _ _ ?_; clear hK K))
         (try simp only [Act.put, List.setIfInBounds_toArray, List.set_cons_zero, List.set_cons_succ])
         refine wpAny_ready (rs := [1, 5]) (by kernel_rfl) (by simp) ?_
         refine AllReady.cons (o := _) rfl (fun K hK => ?_) (AllReady.cons (o := _) rfl (fun K hK => ?_) (AllReady.nil))
         ·go_simp
          (try (refine hK _ _ ?_; clear hK K))
          (try simp only [Act.put, List.setIfInBounds_toArray, List.set_cons_zero, List.set_cons_succ])
          refine wpAny_ready (rs := [5]) (by kernel_rfl) (by simp) ?_
          refine AllReady.cons (o := _) rfl (fun K hK => ?_) (AllReady.nil)
          go_simp
          (try (refine hK _ _ ?_; clear hK K))
          (try simp only [Act.put, List.setIfInBounds_toArray, List.set_cons_zero, List.set_cons_succ])
          refine wpAny_ready (rs := [6]) (by kernel_rfl) (by simp) ?_
          refine AllReady.cons (o := _) rfl (fun K hK => ?_) (AllReady.nil)
          refine step_append_rec Tryz.elStr (by rfl) _ _ (by rfl) (by rfl) (HO8.out.alloc _) x8 (by rfl) (Box.at_ _ [.string x8] _ (by rfl)) (strE_one _) (by omega) (by decide) (by have h1 := HM8.out.1.lt; have h2 := hg8.size; simp at h2 ⊢; omega) ?_
          intro A3 c3 w9 ho9 hg9 hb9
          have HM9 := Lib.hid ((HM8.out.alloc (.cells #[.string x8] 9)).grown hg9 (fun k hk => by have := (HO8.out.blk hk).1; omega))
          have d5 := HM9.out.1.cell 2; have e5 := HM9.out.1.frozen 2
          simp only [List.getElem?_cons_zero, List.getElem?_cons_succ] at d5
          (try (refine hK _ _ ?_; clear hK K))
          (try simp only [Act.put, List.setIfInBounds_toArray, List.set_cons_zero, List.set_cons_succ])
          refine wpAny_ready (rs := [7]) (by kernel_rfl) (by simp) ?_
          refine AllReady.cons (o := _) rfl (fun K hK => ?_) (AllReady.nil)
          go_simp
          (try (refine hK _ _ ?_; clear hK K))
          (try simp only [Act.put, List.setIfInBounds_toArray, List.set_cons_zero, List.set_cons_succ])
          refine wpAny_ready (rs := [8]) (by kernel_rfl) (by simp) ?_
          refine AllReady.cons (o := _) rfl (fun K hK => ?_) (AllReady.nil)
          go_simp
          (try (refine hK _ _ ?_; clear hK K))
          (try simp only [Act.put, List.setIfInBounds_toArray, List.set_cons_zero, List.set_cons_succ])
          refine wpAny_done (by kernel_rfl) ?_ _
          (try simp only [Act.put, List.setIfInBounds_toArray, List.set_cons_zero, List.set_cons_succ])
          have HZ := Lib.hid (good_snoc HZ.out gx8)
          have HM := Lib.hid (HM9.out.put (v' := .slice A3 (q + 1 + q + 1) c3))
          have HO := Lib.hid ((own_put (b := w3.heap.size) (v' := .slice A3 (q + 1 + q + 1) c3) ho9 (by omega)).base_le (show w3.heap.size + 1 ≤ wb by omega))
          clear d2 d3 d4 d5 e2 e5 HM8 HO8 HM9 ho9 hg9 hb9 hc8 hg8 K5 K6
          obtain ⟨K1, K2, ⟨rx, ry, rz, K3⟩, K4, K5, K6⟩ := HM.out
          have kc0 := K1.cell 0; have kc1 := K1.cell 1; have kc2 := K1.cell 2
          have kd0 := K3.cell 0; have kd1 := K3.cell 1; have kd2 := K3.cell 2
          have kf0 := K3.frozen 0; have kf1 := K3.frozen 1; have kf2 := K3.frozen 2
          simp only [List.getElem?_cons_zero, List.getElem?_cons_succ] at kc0 kc1 kc2 kd0 kd1 kd2
          have Z := ((K3.set_ 0 (.string nm)).set_ 1 (.int .i64 (st : Int))).set_ 2 (.slice A3 (q + 1 + q + 1) c3)
          have y0 := Z.cell 0; have y1 := Z.cell 1; have y2 := Z.cell 2
          simp only [List.set_cons_zero, List.set_cons_succ, List.getElem?_cons_zero, List.getElem?_cons_succ] at y0 y1 y2
          have HK := Lib.hid K2; have HGR := Lib.hid K4
          clear K1 K2 K3 K4 Z
          go_wp2_with fail
          refine bodyPost_ret (v := .agg #[.string nm, .int .i64 (st : Int), .slice A3 (q + 1 + q + 1) c3]) (by simp [results, Tryz.results180, go_sem, y0, y1, y2]) rfl ?_
          exact fin.out _ _ _ _ _ _ HGR.out (HK.out.mono (by omega)) HO.out (by omega) (by omega) HZ.out (grownBy_trans (grownBy_trans (only_set _ (p := ⟨w.heap.size, 0, none⟩) _) (only_set _ (p := ⟨w.heap.size, 1, none⟩) _)) (only_set _ (p := ⟨w.heap.size, 2, none⟩) _))
         ·go_simp
          (try (refine hK _ _ ?_; clear hK K))
          (try simp only [Act.put, List.setIfInBounds_toArray, List.set_cons_zero, List.set_cons_succ])
          refine wpAny_ready (rs := [1]) (by kernel_rfl) (by simp) ?_
          refine AllReady.cons (o := _) rfl (fun K hK => ?_) (AllReady.nil)
          go_simp
          (try (refine hK _ _ ?_; clear hK K))
          (try simp only [Act.put, List.setIfInBounds_toArray, List.set_cons_zero, List.set_cons_succ])
          refine wpAny_ready (rs := [6]) (by kernel_rfl) (by simp) ?_
          refine AllReady.cons (o := _) rfl (fun K hK => ?_) (AllReady.nil)
          refine step_append_rec Tryz.elStr (by rfl) _ _ (by rfl) (by rfl) (HO8.out.alloc _) x8 (by rfl) (Box.at_ _ [.string x8] _ (by rfl)) (strE_one _) (by omega) (by decide) (by have h1 := HM8.out.1.lt; have h2 := hg8.size; simp at h2 ⊢; omega) ?_
          intro A3 c3 w9 ho9 hg9 hb9
          have HM9 := Lib.hid ((HM8.out.alloc (.cells #[.string x8] 9)).grown hg9 (fun k hk => by have := (HO8.out.blk hk).1; omega))
          have d5 := HM9.out.1.cell 2; have e5 := HM9.out.1.frozen 2
          simp only [List.getElem?_cons_zero, List.getElem?_cons_succ] at d5
          (try (refine hK _ _ ?_; clear hK K))
          (try simp only [Act.put, List.setIfInBounds_toArray, List.set_cons_zero, List.set_cons_succ])
          refine wpAny_ready (rs := [7]) (by kernel_rfl) (by simp) ?_
          refine AllReady.cons (o := _) rfl (fun K hK => ?_) (AllReady.nil)
          go_simp
          (try (refine hK _ _ ?_; clear hK K))
          (try simp only [Act.put, List.setIfInBounds_toArray, List.set_cons_zero, List.set_cons_succ])
          refine wpAny_ready (rs := [8]) (by kernel_rfl) (by simp) ?_
          refine AllReady.cons (o := _) rfl (fun K hK => ?_) (AllReady.nil)
          go_simp
          (try (refine hK _ _ ?_; clear hK K))
          (try simp only [Act.put, List.setIfInBounds_toArray, List.set_cons_zero, List.set_cons_succ])
          refine wpAny_done (by kernel_rfl) ?_ _
          (try simp only [Act.put, List.setIfInBounds_toArray, List.set_cons_zero, List.set_cons_succ])
          have HZ := Lib.hid (good_snoc HZ.out gx8)
          have HM := Lib.hid (HM9.out.put (v' := .slice A3 (q + 1 + q + 1) c3))
          have HO := Lib.hid ((own_put (b := w3.heap.size) (v' := .slice A3 (q + 1 + q + 1) c3) ho9 (by omega)).base_le (show w3.heap.size + 1 ≤ wb by omega))
          clear d2 d3 d4 d5 e2 e5 HM8 HO8 HM9 ho9 hg9 hb9 hc8 hg8 K5 K6
          obtain ⟨K1, K2, ⟨rx, ry, rz, K3⟩, K4, K5, K6⟩ := HM.out
          have kc0 := K1.cell 0; have kc1 := K1.cell 1; have kc2 := K1.cell 2
          have kd0 := K3.cell 0; have kd1 := K3.cell 1; have kd2 := K3.cell 2
          have kf0 := K3.frozen 0; have kf1 := K3.frozen 1; have kf2 := K3.frozen 2
          simp only [List.getElem?_cons_zero, List.getElem?_cons_succ] at kc0 kc1 kc2 kd0 kd1 kd2
          have Z := ((K3.set_ 0 (.string nm)).set_ 1 (.int .i64 (st : Int))).set_ 2 (.slice A3 (q + 1 + q + 1) c3)
          have y0 := Z.cell 0; have y1 := Z.cell 1; have y2 := Z.cell 2
          simp only [List.set_cons_zero, List.set_cons_succ, List.getElem?_cons_zero, List.getElem?_cons_succ] at y0 y1 y2
          have HK := Lib.hid K2; have HGR := Lib.hid K4
          clear K1 K2 K3 K4 Z
          go_wp2_with fail
          refine bodyPost_ret (v := .agg #[.string nm, .int .i64 (st : Int), .slice A3 (q + 1 + q + 1) c3]) (by simp [results, Tryz.results180, go_sem, y0, y1, y2]) rfl ?_
          exact fin.out _ _ _ _ _ _ HGR.out (HK.out.mono (by omega)) HO.out (by omega) (by omega) HZ.out (grownBy_trans (grownBy_trans (only_set _ (p := ⟨w.heap.size, 0, none⟩) _) (only_set _ (p := ⟨w.heap.size, 1, none⟩) _)) (only_set _ (p := ⟨w.heap.size, 2, none⟩) _))
       ·rw [show (((k + 1 : Nat) : Int) - 1) = (k : Int) by omega]
        have hI : (0 : Int) ≤ (k : Int) := by omega
        obtain ⟨b3, o3, y, hA, hbb, hy, hcy⟩ := HR.out.at_str (k := k) (by omega)
        injection hA with hA
        injection hA with e1 e2 _
        subst e1 e2
        have gy := HG.out y (List.mem_of_getElem? hy)
        obtain ⟨K1, _, _, _, K5, K6⟩ := HM.out
        have d2 := K1.cell 2; have e2 := K1.frozen 2
        have d4 := (HM.out.alloc (.cells #[.string y] 9)).1.cell 2
        have hJ : (k : Int) < (m : Int) := by omega
        simp only [List.getElem?_cons_zero, List.getElem?_cons_succ, Nat.zero_add] at d2 d4 hcy
        have HO8 := Lib.hid (HO.out.up (below_drewN (Below.refl _ _) 1))
        clear K1 hy
        go_upto_region 22 with fail
        refine wp_region_any (by kernel_rfl) ?_
        (try (change wpAny _ _ _ _ _ _ _ (World.drew _)))
        refine wpAny_take (i := 0) (oi := { dst := some 81, op := _, type := _, pos := _, after := _, guard := _ }) (v := ?_) rfl (by kernel_rfl) (by kernel_rfl) (by kernel_rfl) (fun _ _ _ h => h) (Or.inl ⟨by rfl, ?_⟩) ?_
        rotate_left
        ·(intro w; go_simp) <;> with_reducible rfl
        (try simp only [Act.put, List.setIfInBounds_toArray, List.set_cons_zero, List.set_cons_succ])
        refine wpAny_take (i := 2) (oi := { dst := some 83, op := _, type := _, pos := _, after := _, guard := _ }) (v := ?_) rfl (by kernel_rfl) (by kernel_rfl) (by kernel_rfl) (fun _ _ _ h => h) (Or.inl ⟨by rfl, ?_⟩) ?_
        rotate_left
        ·(intro w; go_simp) <;> with_reducible rfl
        (try simp only [Act.put, List.setIfInBounds_toArray, List.set_cons_zero, List.set_cons_succ])
        refine wpAny_take (i := 3) (oi := { dst := some 84, op := _, type := _, pos := _, after := _, guard := _ }) (v := ?_) rfl (by kernel_rfl) (by kernel_rfl) (by kernel_rfl) (fun _ _ _ h => h) (Or.inl ⟨by rfl, ?_⟩) ?_
        rotate_left
        ·(intro w; go_simp) <;> with_reducible rfl
        (try simp only [Act.put, List.setIfInBounds_toArray, List.set_cons_zero, List.set_cons_succ])
        refine wpAny_take (i := 4) (oi := { dst := some 85, op := _, type := _, pos := _, after := _, guard := _ }) (v := ?_) rfl (by kernel_rfl) (by kernel_rfl) (by kernel_rfl) (fun _ _ _ h => h) (Or.inl ⟨by rfl, ?_⟩) ?_
        rotate_left
        ·(intro w; go_simp) <;> with_reducible rfl
        (try simp only [Act.put, List.setIfInBounds_toArray, List.set_cons_zero, List.set_cons_succ])
        refine wpAny_ready (rs := [1, 5]) (by kernel_rfl) (by simp) ?_
        refine AllReady.cons (o := _) rfl (fun K hK => ?_) (AllReady.cons (o := _) rfl (fun K hK => ?_) (AllReady.nil))
        ·go_simp
         (try (refine hK _ _ ?_; clear hK K))
         (try simp only [Act.put, List.setIfInBounds_toArray, List.set_cons_zero, List.set_cons_succ])
         refine wpAny_ready (rs := [5]) (by kernel_rfl) (by simp) ?_
         refine AllReady.cons (o := _) rfl (fun K hK => ?_) (AllReady.nil)
         go_simp
         (try (refine hK _ _ ?_; clear hK K))
         (try simp only [Act.put, List.setIfInBounds_toArray, List.set_cons_zero, List.set_cons_succ])
         refine wpAny_ready (rs := [6]) (by kernel_rfl) (by simp) ?_
         refine AllReady.cons (o := _) rfl (fun K hK => ?_) (AllReady.nil)
         go_simp
         (try (refine hK _ _ ?_; clear hK K))
         (try simp only [Act.put, List.setIfInBounds_toArray, List.set_cons_zero, List.set_cons_succ])
         refine wpAny_ready (rs := [7]) (by kernel_rfl) (by simp) ?_
         refine AllReady.cons (o := _) rfl (fun K hK => ?_) (AllReady.nil)
         refine step_append_rec Tryz.elStr (by rfl) _ _ (by rfl) (by rfl) (HO8.out.alloc _) y (by rfl) (Box.at_ _ [.string y] _ (by rfl)) (strE_one _) (by omega) (by decide) (by simp; omega) ?_
         intro A3 c3 w9 ho9 hg9 hb9
         have HM9 := Lib.hid ((HM.out.drew.alloc (.cells #[.string y] 9)).grown hg9 (fun k hk => by have := (HO8.out.blk hk).1; omega))
         have HR9 := Lib.hid (strs_grown ((HR.out.up (below_drewN (Below.refl _ _) 1)).alloc (.cells #[.string y] 9)) hg9 (fun e => by have := (HO8.out.blk e.symm).1; omega))
         have d5 := HM9.out.1.cell 2; have e5 := HM9.out.1.frozen 2
         simp only [List.getElem?_cons_zero, List.getElem?_cons_succ] at d5
         (try (refine hK _ _ ?_; clear hK K))
         (try simp only [Act.put, List.setIfInBounds_toArray, List.set_cons_zero, List.set_cons_succ])
         refine wpAny_ready (rs := [8]) (by kernel_rfl) (by simp) ?_
         refine AllReady.cons (o := _) rfl (fun K hK => ?_) (AllReady.nil)
         go_simp
         (try (refine hK _ _ ?_; clear hK K))
         (try simp only [Act.put, List.setIfInBounds_toArray, List.set_cons_zero, List.set_cons_succ])
         refine wpAny_ready (rs := [9]) (by kernel_rfl) (by simp) ?_
         refine AllReady.cons (o := _) rfl (fun K hK => ?_) (AllReady.nil)
         go_simp
         (try (refine hK _ _ ?_; clear hK K))
         (try simp only [Act.put, List.setIfInBounds_toArray, List.set_cons_zero, List.set_cons_succ])
         refine wpAny_done (by kernel_rfl) ?_ _
         (try simp only [Act.put, List.setIfInBounds_toArray, List.set_cons_zero, List.set_cons_succ])
         have HZ9 := Lib.hid (good_snoc HZ.out gy)
         have HMF := Lib.hid (HM9.out.put (v' := .slice A3 (m + 1 + q + 1) c3))
         have HOF := Lib.hid (own_put (b := w3.heap.size) (v' := .slice A3 (m + 1 + q + 1) c3) ho9 (by omega))
         have HRF := Lib.hid (strs_grown HR9.out (only_set w9 (p := ⟨w3.heap.size, 2, none⟩) (.slice A3 (m + 1 + q + 1) c3)) (fun e => by injection e with e; dsimp only at e; omega))
         have hs12 : wb ≤ (w9.setCell ⟨w3.heap.size, 2, none⟩ (.slice A3 (m + 1 + q + 1) c3)).heap.size := by have := hg9.size; simp at this ⊢; omega
         clear d2 d4 d5 e2 e5
         go_wp2
         go_roundw
         case rel => exact ⟨k, q + 1, A3, c3, L ++ [y], by omega, by go_num, HMF, HOF, HZ9, HRF, hs12⟩
         case measure => simp [intOf] <;> omega
        ·go_simp
         (try (refine hK _ _ ?_; clear hK K))
         (try simp only [Act.put, List.setIfInBounds_toArray, List.set_cons_zero, List.set_cons_succ])
         refine wpAny_ready (rs := [1, 6]) (by kernel_rfl) (by simp) ?_
         refine AllReady.cons (o := _) rfl (fun K hK => ?_) (AllReady.cons (o := _) rfl (fun K hK => ?_) (AllReady.nil))
         ·go_simp
          (try (refine hK _ _ ?_; clear hK K))
          (try simp only [Act.put, List.setIfInBounds_toArray, List.set_cons_zero, List.set_cons_succ])
          refine wpAny_ready (rs := [6]) (by kernel_rfl) (by simp) ?_
          refine AllReady.cons (o := _) rfl (fun K hK => ?_) (AllReady.nil)
          go_simp
          (try (refine hK _ _ ?_; clear hK K))
          (try simp only [Act.put, List.setIfInBounds_toArray, List.set_cons_zero, List.set_cons_succ])
          refine wpAny_ready (rs := [7]) (by kernel_rfl) (by simp) ?_
          refine AllReady.cons (o := _) rfl (fun K hK => ?_) (AllReady.nil)
          refine step_append_rec Tryz.elStr (by rfl) _ _ (by rfl) (by rfl) (HO8.out.alloc _) y (by rfl) (Box.at_ _ [.string y] _ (by rfl)) (strE_one _) (by omega) (by decide) (by simp; omega) ?_
          intro A3 c3 w9 ho9 hg9 hb9
          have HM9 := Lib.hid ((HM.out.drew.alloc (.cells #[.string y] 9)).grown hg9 (fun k hk => by have := (HO8.out.blk hk).1; omega))
          have HR9 := Lib.hid (strs_grown ((HR.out.up (below_drewN (Below.refl _ _) 1)).alloc (.cells #[.string y] 9)) hg9 (fun e => by have := (HO8.out.blk e.symm).1; omega))
          have d5 := HM9.out.1.cell 2; have e5 := HM9.out.1.frozen 2
          simp only [List.getElem?_cons_zero, List.getElem?_cons_succ] at d5
          (try (refine hK _ _ ?_; clear hK K))
          (try simp only [Act.put, List.setIfInBounds_toArray, List.set_cons_zero, List.set_cons_succ])
          refine wpAny_ready (rs := [8]) (by kernel_rfl) (by simp) ?_
          refine AllReady.cons (o := _) rfl (fun K hK => ?_) (AllReady.nil)
          go_simp
          (try (refine hK _ _ ?_; clear hK K))
          (try simp only [Act.put, List.setIfInBounds_toArray, List.set_cons_zero, List.set_cons_succ])
          refine wpAny_ready (rs := [9]) (by kernel_rfl) (by simp) ?_
          refine AllReady.cons (o := _) rfl (fun K hK => ?_) (AllReady.nil)
          go_simp
          (try (refine hK _ _ ?_; clear hK K))
          (try simp only [Act.put, List.setIfInBounds_toArray, List.set_cons_zero, List.set_cons_succ])
          refine wpAny_done (by kernel_rfl) ?_ _
          (try simp only [Act.put, List.setIfInBounds_toArray, List.set_cons_zero, List.set_cons_succ])
          have HZ9 := Lib.hid (good_snoc HZ.out gy)
          have HMF := Lib.hid (HM9.out.put (v' := .slice A3 (m + 1 + q + 1) c3))
          have HOF := Lib.hid (own_put (b := w3.heap.size) (v' := .slice A3 (m + 1 + q + 1) c3) ho9 (by omega))
          have HRF := Lib.hid (strs_grown HR9.out (only_set w9 (p := ⟨w3.heap.size, 2, none⟩) (.slice A3 (m + 1 + q + 1) c3)) (fun e => by injection e with e; dsimp only at e; omega))
          have hs12 : wb ≤ (w9.setCell ⟨w3.heap.size, 2, none⟩ (.slice A3 (m + 1 + q + 1) c3)).heap.size := by have := hg9.size; simp at this ⊢; omega
          clear d2 d4 d5 e2 e5
          go_wp2
          go_roundw
          case rel => exact ⟨k, q + 1, A3, c3, L ++ [y], by omega, by go_num, HMF, HOF, HZ9, HRF, hs12⟩
          case measure => simp [intOf] <;> omega
         ·go_simp
          (try (refine hK _ _ ?_; clear hK K))
          (try simp only [Act.put, List.setIfInBounds_toArray, List.set_cons_zero, List.set_cons_succ])
          refine wpAny_ready (rs := [1]) (by kernel_rfl) (by simp) ?_
          refine AllReady.cons (o := _) rfl (fun K hK => ?_) (AllReady.nil)
          go_simp
          (try (refine hK _ _ ?_; clear hK K))
          (try simp only [Act.put, List.setIfInBounds_toArray, List.set_cons_zero, List.set_cons_succ])
          refine wpAny_ready (rs := [7]) (by kernel_rfl) (by simp) ?_
          refine AllReady.cons (o := _) rfl (fun K hK => ?_) (AllReady.nil)
          refine step_append_rec Tryz.elStr (by rfl) _ _ (by rfl) (by rfl) (HO8.out.alloc _) y (by rfl) (Box.at_ _ [.string y] _ (by rfl)) (strE_one _) (by omega) (by decide) (by simp; omega) ?_
          intro A3 c3 w9 ho9 hg9 hb9
          have HM9 := Lib.hid ((HM.out.drew.alloc (.cells #[.string y] 9)).grown hg9 (fun k hk => by have := (HO8.out.blk hk).1; omega))
          have HR9 := Lib.hid (strs_grown ((HR.out.up (below_drewN (Below.refl _ _) 1)).alloc (.cells #[.string y] 9)) hg9 (fun e => by have := (HO8.out.blk e.symm).1; omega))
          have d5 := HM9.out.1.cell 2; have e5 := HM9.out.1.frozen 2
          simp only [List.getElem?_cons_zero, List.getElem?_cons_succ] at d5
          (try (refine hK _ _ ?_; clear hK K))
          (try simp only [Act.put, List.setIfInBounds_toArray, List.set_cons_zero, List.set_cons_succ])
          refine wpAny_ready (rs := [8]) (by kernel_rfl) (by simp) ?_
          refine AllReady.cons (o := _) rfl (fun K hK => ?_) (AllReady.nil)
          go_simp
          (try (refine hK _ _ ?_; clear hK K))
          (try simp only [Act.put, List.setIfInBounds_toArray, List.set_cons_zero, List.set_cons_succ])
          refine wpAny_ready (rs := [9]) (by kernel_rfl) (by simp) ?_
          refine AllReady.cons (o := _) rfl (fun K hK => ?_) (AllReady.nil)
          go_simp
          (try (refine hK _ _ ?_; clear hK K))
          (try simp only [Act.put, List.setIfInBounds_toArray, List.set_cons_zero, List.set_cons_succ])
          refine wpAny_done (by kernel_rfl) ?_ _
          (try simp only [Act.put, List.setIfInBounds_toArray, List.set_cons_zero, List.set_cons_succ])
          have HZ9 := Lib.hid (good_snoc HZ.out gy)
          have HMF := Lib.hid (HM9.out.put (v' := .slice A3 (m + 1 + q + 1) c3))
          have HOF := Lib.hid (own_put (b := w3.heap.size) (v' := .slice A3 (m + 1 + q + 1) c3) ho9 (by omega))
          have HRF := Lib.hid (strs_grown HR9.out (only_set w9 (p := ⟨w3.heap.size, 2, none⟩) (.slice A3 (m + 1 + q + 1) c3)) (fun e => by injection e with e; dsimp only at e; omega))
          have hs12 : wb ≤ (w9.setCell ⟨w3.heap.size, 2, none⟩ (.slice A3 (m + 1 + q + 1) c3)).heap.size := by have := hg9.size; simp at this ⊢; omega
          clear d2 d4 d5 e2 e5
          go_wp2
          go_roundw
          case rel => exact ⟨k, q + 1, A3, c3, L ++ [y], by omega, by go_num, HMF, HOF, HZ9, HRF, hs12⟩
          case measure => simp [intOf] <;> omega
  ·have hM5 := HM5.out
   rcases Nat.mod_two_eq_zero_or_one st with hpar | hpar
   ·have hI : ¬ ((st : Int) % 2 = 1) := by omega
    have hpe : ((st : Int) % 2 == 1) = false := by simpa using hI
    go_wp2_with fail
    refine (spec_l4Hunting (N := st) (by omega) (by omega) (hunt_one st (by omega) (by omega) hpar).2.2).mono ?_; rintro e w6 ⟨A6, c6, L6, rfl, HO6, HZ6, hb6⟩
    have HM6 := hM5.up hb6
    have g2 := HM6.1.cell 2; have e2 := HM6.1.frozen 2
    have hsw : w3.heap.size < w5.heap.size := hM5.1.lt
    simp only [List.getElem?_cons_zero, List.getElem?_cons_succ] at g2
    have HM := Lib.hid (HM6.put (v' := .slice A6 (2 * st) c6))
    have HO := Lib.hid ((own_put (b := w3.heap.size) (v' := .slice A6 (2 * st) c6) HO6 (by omega)).base_le (show w3.heap.size + 1 ≤ w5.heap.size by omega))
    have HZ := Lib.hid HZ6
    obtain ⟨K1, K2, ⟨rx, ry, rz, K3⟩, K4, K5, K6⟩ := HM.out
    have kc0 := K1.cell 0; have kc1 := K1.cell 1; have kc2 := K1.cell 2
    have kd0 := K3.cell 0; have kd1 := K3.cell 1; have kd2 := K3.cell 2
    have kf0 := K3.frozen 0; have kf1 := K3.frozen 1; have kf2 := K3.frozen 2
    simp only [List.getElem?_cons_zero, List.getElem?_cons_succ] at kc0 kc1 kc2 kd0 kd1 kd2
    have Z := ((K3.set_ 0 (.string nm)).set_ 1 (.int .i64 (st : Int))).set_ 2 (.slice A6 (2 * st) c6)
    have y0 := Z.cell 0; have y1 := Z.cell 1; have y2 := Z.cell 2
    simp only [List.set_cons_zero, List.set_cons_succ, List.getElem?_cons_zero, List.getElem?_cons_succ] at y0 y1 y2
    have HK := Lib.hid K2; have HGR := Lib.hid K4
    clear K1 K2 K3 K4 Z
    go_wp2_with fail
    refine bodyPost_ret (v := .agg #[.string nm, .int .i64 (st : Int), .slice A6 (2 * st) c6]) (by simp [results, Tryz.results180, go_sem, y0, y1, y2]) rfl ?_
    exact fin.out _ _ _ _ _ _ HGR.out (HK.out.mono (by omega)) HO.out (by omega) (by omega) HZ.out (grownBy_trans (grownBy_trans (only_set _ (p := ⟨w.heap.size, 0, none⟩) _) (only_set _ (p := ⟨w.heap.size, 1, none⟩) _)) (only_set _ (p := ⟨w.heap.size, 2, none⟩) _))
   ·have hI : (st : Int) % 2 = 1 := by omega
    have hpe : ((st : Int) % 2 == 1) = true := by simpa using hI
    have hd1 : (dig1 (st : Int)).size = 1 := rfl
    go_wp2_with fail
    refine (spec_l1Num_1 (by omega) (by omega)).mono ?_; rintro e w7 ⟨rfl, hb7⟩
    have hM7 := hM5.up hb7
    go_wp2_with fail
    refine (spec_l4Hunting (N := st) (by omega) (by omega) (hunt_two st (by omega) (by omega) hpar).2.2).mono ?_; rintro e w6 ⟨A6, c6, L6, rfl, HO6, HZ6, hb6⟩
    have HM6 := hM7.up hb6
    have g2 := HM6.1.cell 2; have e2 := HM6.1.frozen 2
    have hsw : w3.heap.size < w7.heap.size := hM7.1.lt
    simp only [List.getElem?_cons_zero, List.getElem?_cons_succ] at g2
    have HM := Lib.hid (HM6.put (v' := .slice A6 (2 * st) c6))
    have HO := Lib.hid ((own_put (b := w3.heap.size) (v' := .slice A6 (2 * st) c6) HO6 (by omega)).base_le (show w3.heap.size + 1 ≤ w7.heap.size by omega))
    have HZ := Lib.hid HZ6
    obtain ⟨K1, K2, ⟨rx, ry, rz, K3⟩, K4, K5, K6⟩ := HM.out
    have kc0 := K1.cell 0; have kc1 := K1.cell 1; have kc2 := K1.cell 2
    have kd0 := K3.cell 0; have kd1 := K3.cell 1; have kd2 := K3.cell 2
    have kf0 := K3.frozen 0; have kf1 := K3.frozen 1; have kf2 := K3.frozen 2
    simp only [List.getElem?_cons_zero, List.getElem?_cons_succ] at kc0 kc1 kc2 kd0 kd1 kd2
    have Z := ((K3.set_ 0 (.string nm)).set_ 1 (.int .i64 (st : Int))).set_ 2 (.slice A6 (2 * st) c6)
    have y0 := Z.cell 0; have y1 := Z.cell 1; have y2 := Z.cell 2
    simp only [List.set_cons_zero, List.set_cons_succ, List.getElem?_cons_zero, List.getElem?_cons_succ] at y0 y1 y2
    have HK := Lib.hid K2; have HGR := Lib.hid K4
    clear K1 K2 K3 K4 Z
    go_wp2_with fail
    refine bodyPost_ret (v := .agg #[.string nm, .int .i64 (st : Int), .slice A6 (2 * st) c6]) (by simp [results, Tryz.results180, go_sem, y0, y1, y2]) rfl ?_
    exact fin.out _ _ _ _ _ _ HGR.out (HK.out.mono (by omega)) HO.out (by omega) (by omega) HZ.out (grownBy_trans (grownBy_trans (only_set _ (p := ⟨w.heap.size, 0, none⟩) _) (only_set _ (p := ⟨w.heap.size, 1, none⟩) _)) (only_set _ (p := ⟨w.heap.size, 2, none⟩) _))
 ·have hI4 : ¬ (4 : Int) ≤ (st : Int) := by omega
  go_wp2_with fail
  obtain ⟨w4, hw4⟩ : ∃ u, u = w3.alloc (.cells #[.string nm, .int .i64 (st : Int), .slice none 0 0] 25) := ⟨_, rfl⟩
  rw [← hw4] at M3 ⊢
  clear hw4
  have HM5 := Lib.hid (M3.mono (show a + 1 + 1 ≤ a + 1 + 1 + 1 by omega))
  clear M3
  refine (cur_one HS.out (G.out _ HM5.out.2.2.2.1) hp HM5.out.2.1 (by omega) (by decide) (by decide)).mono ?_; rintro e w6 ⟨b2, rfl, hc6, hg6⟩
  have HM6 := Lib.hid (HM5.out.draw hg6 hc6)
  clear hc6 hg6
  rcases b2
  ·go_wp2_with fail
   refine (cur_pick HS.out (G.out _ HM6.out.2.2.2.1) hp HM6.out.2.1 (by omega) (by decide) (by decide)).mono ?_; rintro e w7 ⟨x, rfl, ⟨x0, x1⟩, hc7, hg7⟩
   have HM7 := Lib.hid (HM6.out.draw hg7 hc7)
   obtain ⟨X, rfl⟩ := Int.eq_ofNat_of_zero_le x0
   have hX : X ≤ 7 := by omega
   clear hc7 hg7 x0 x1
   go_wp2
   go_loopw [9] (fun i wr => ∃ (k m : Nat) (A' : Option Addr) (c' : Nat) (L : List ByteArray), k + m = X + 1 ∧ i = .int .i64 k ∧ Hid (MSt w wr p A n c (a + 10 + m) w3.heap.size nm st (.slice A' m c')) ∧ Hid (Owned strE 1 9 wr (w3.heap.size + 1) A' m c' L) ∧ Hid (∀ x ∈ L, goodChange st x = true) ∧ w3.heap.size < wr.heap.size) (fun i _ => (intOf i).toNat)
   case atStart => exact ⟨X + 1, 0, none, 0, [], rfl, by go_num, Lib.hid (HM7.out.mono (by omega)), Lib.hid (Owned.nil strE_len _ _ _), Lib.hid (fun s hs => by cases hs), HM7.out.1.lt⟩
   case round =>
    obtain ⟨k, m, A2, c2, L, hkm, rfl, HM, HO, HZ, hbr⟩ := hrel
    rename World => wr
    by_cases h0 : 0 < k
    ·have hI : (0 : Int) < (k : Int) := by omega
     have hOl := HO.out.len
     go_upto_region 6 with fail
     obtain ⟨K1, _, _, _, K5, K6⟩ := HM.out
     have d2 := K1.cell 2; have e2 := K1.frozen 2
     simp only [List.getElem?_cons_zero, List.getElem?_cons_succ] at d2
     clear K1
     refine wp_region_any (by kernel_rfl) ?_
     (try (change wpAny _ _ _ _ _ _ _ (World.drew _)))
     refine wpAny_take (i := 0) (oi := { dst := some 25, op := _, type := _, pos := _, after := _, guard := _ }) (v := ?_) rfl (by kernel_rfl) (by kernel_rfl) (by kernel_rfl) (fun _ _ _ h => h) (Or.inl ⟨by rfl, ?_⟩) ?_
     rotate_left
     ·(intro w; go_simp) <;> with_reducible rfl
     (try simp only [Act.put, List.setIfInBounds_toArray, List.set_cons_zero, List.set_cons_succ])
     refine wpAny_take (i := 2) (oi := { dst := some 27, op := _, type := _, pos := _, after := _, guard := _ }) (v := ?_) rfl (by kernel_rfl) (by kernel_rfl) (by kernel_rfl) (fun _ _ _ h => h) (Or.inl ⟨by rfl, ?_⟩) ?_
     rotate_left
     ·(intro w; go_simp) <;> with_reducible rfl
     (try simp only [Act.put, List.setIfInBounds_toArray, List.set_cons_zero, List.set_cons_succ])
     refine wpAny_take (i := 3) (oi := { dst := some 28, op := _, type := _, pos := _, after := _, guard := _ }) (v := ?_) rfl (by kernel_rfl) (by kernel_rfl) (by kernel_rfl) (fun _ _ _ h => h) (Or.inl ⟨by rfl, ?_⟩) ?_
     rotate_left
     ·(intro w; go_simp) <;> with_reducible rfl
     (try simp only [Act.put, List.setIfInBounds_toArray, List.set_cons_zero, List.set_cons_succ])
     refine wpAny_ready (rs := [1, 4]) (by kernel_rfl) (by simp) ?_
     refine AllReady.cons (o := _) rfl (fun K hK => ?_) (AllReady.cons (o := _) rfl (fun K hK => ?_) (AllReady.nil))
     ·go_simp
      (try (refine hK _ _ ?_; clear hK K))
      (try simp only [Act.put, List.setIfInBounds_toArray, List.set_cons_zero, List.set_cons_succ])
      refine wpAny_ready (rs := [4]) (by kernel_rfl) (by simp) ?_
      refine AllReady.cons (o := _) rfl (fun K hK => ?_) (AllReady.nil)
      go_simp
      refine (cur_change HS.out (G.out _ HM.out.drew.2.2.2.1) hp HM.out.drew.2.1 (by omega) (by omega) (by omega)).mono ?_; rintro e w8 ⟨x8, rfl, gx8, zx8, hc8, hg8⟩
      have HM8 := Lib.hid (HM.out.drew.draw hg8 hc8)
      have HO8 := Lib.hid ((HO.out.up (below_drewN (Below.refl _ _) 1)).past hg8 (by omega))
      have d3 := HM8.out.1.cell 2
      simp only [List.getElem?_cons_zero, List.getElem?_cons_succ] at d3
      have d4 := (HM8.out.alloc (.cells #[.string x8] 9)).1.cell 2
      simp only [List.getElem?_cons_zero, List.getElem?_cons_succ] at d4
      try go_wp2_with fail
      (try (refine hK _ _ ?_; clear hK K))
      (try simp only [Act.put, List.setIfInBounds_toArray, List.set_cons_zero, List.set_cons_succ])
      refine wpAny_ready (rs := [5]) (by kernel_rfl) (by simp) ?_
      refine AllReady.cons (o := _) rfl (fun K hK => ?_) (AllReady.nil)
      go_simp
      (try (refine hK _ _ ?_; clear hK K))
      (try simp only [Act.put, List.setIfInBounds_toArray, List.set_cons_zero, List.set_cons_succ])
      refine wpAny_ready (rs := [6]) (by kernel_rfl) (by simp) ?_
      refine AllReady.cons (o := _) rfl (fun K hK => ?_) (AllReady.nil)
      refine step_append_rec Tryz.elStr (by rfl) _ _ (by rfl) (by rfl) (HO8.out.alloc _) x8 (by rfl) (Box.at_ _ [.string x8] _ (by rfl)) (strE_one _) (by omega) (by decide) (by have h1 := HM8.out.1.lt; have h2 := hg8.size; simp at h2 ⊢; omega) ?_
      intro A3 c3 w9 ho9 hg9 hb9
      have HM9 := Lib.hid ((HM8.out.alloc (.cells #[.string x8] 9)).grown hg9 (fun k hk => by have := (HO8.out.blk hk).1; omega))
      have d5 := HM9.out.1.cell 2; have e5 := HM9.out.1.frozen 2
      simp only [List.getElem?_cons_zero, List.getElem?_cons_succ] at d5
      (try (refine hK _ _ ?_; clear hK K))
      (try simp only [Act.put, List.setIfInBounds_toArray, List.set_cons_zero, List.set_cons_succ])
      refine wpAny_ready (rs := [7]) (by kernel_rfl) (by simp) ?_
      refine AllReady.cons (o := _) rfl (fun K hK => ?_) (AllReady.nil)
      go_simp
      (try (refine hK _ _ ?_; clear hK K))
      (try simp only [Act.put, List.setIfInBounds_toArray, List.set_cons_zero, List.set_cons_succ])
      refine wpAny_ready (rs := [8]) (by kernel_rfl) (by simp) ?_
      refine AllReady.cons (o := _) rfl (fun K hK => ?_) (AllReady.nil)
      go_simp
      (try (refine hK _ _ ?_; clear hK K))
      (try simp only [Act.put, List.setIfInBounds_toArray, List.set_cons_zero, List.set_cons_succ])
      refine wpAny_done (by kernel_rfl) ?_ _
      (try simp only [Act.put, List.setIfInBounds_toArray, List.set_cons_zero, List.set_cons_succ])
      have HZ9 := Lib.hid (good_snoc HZ.out gx8)
      have HMF := Lib.hid (HM9.out.put (v' := .slice A3 (m + 1) c3))
      have HOF := Lib.hid (own_put (b := w3.heap.size) (v' := .slice A3 (m + 1) c3) ho9 (by omega))
      clear d2 d3 d4 d5 e2 e5
      go_wp2
      go_roundw
      case rel => exact ⟨k - 1, m + 1, A3, c3, L ++ [x8], by omega, by go_num, Lib.hid (HMF.out.mono (by omega)), HOF, HZ9, HMF.out.1.lt⟩
      case measure => simp [intOf]; omega
     ·go_simp
      refine (cur_change HS.out (G.out _ HM.out.drew.2.2.2.1) hp HM.out.drew.2.1 (by omega) (by omega) (by omega)).mono ?_; rintro e w8 ⟨x8, rfl, gx8, zx8, hc8, hg8⟩
      have HM8 := Lib.hid (HM.out.drew.draw hg8 hc8)
      have HO8 := Lib.hid ((HO.out.up (below_drewN (Below.refl _ _) 1)).past hg8 (by omega))
      have d3 := HM8.out.1.cell 2
      simp only [List.getElem?_cons_zero, List.getElem?_cons_succ] at d3
      have d4 := (HM8.out.alloc (.cells #[.string x8] 9)).1.cell 2
      simp only [List.getElem?_cons_zero, List.getElem?_cons_succ] at d4
      try go_wp2_with fail
      (try (refine hK _ _ ?_; clear hK K))
      (try simp only [Act.put, List.setIfInBounds_toArray, List.set_cons_zero, List.set_cons_succ])
      refine wpAny_ready (rs := [1, 5]) (by kernel_rfl) (by simp) ?_
      refine AllReady.cons (o := _) rfl (fun K hK => ?_) (AllReady.cons (o := _) rfl (fun K hK => ?_) (AllReady.nil))
      ·go_simp
       (try (refine hK _ _ ?_; clear hK K))
       (try simp only [Act.put, List.setIfInBounds_toArray, List.set_cons_zero, List.set_cons_succ])
       refine wpAny_ready (rs := [5]) (by kernel_rfl) (by simp) ?_
       refine AllReady.cons (o := _) rfl (fun K hK => ?_) (AllReady.nil)
       go_simp
       (try (refine hK _ _ ?_; clear hK K))
       (try simp only [Act.put, List.setIfInBounds_toArray, List.set_cons_zero, List.set_cons_succ])
       refine wpAny_ready (rs := [6]) (by kernel_rfl) (by simp) ?_
       refine AllReady.cons (o := _) rfl (fun K hK => ?_) (AllReady.nil)
       refine step_append_rec Tryz.elStr (by rfl) _ _ (by rfl) (by rfl) (HO8.out.alloc _) x8 (by rfl) (Box.at_ _ [.string x8] _ (by rfl)) (strE_one _) (by omega) (by decide) (by have h1 := HM8.out.1.lt; have h2 := hg8.size; simp at h2 ⊢; omega) ?_
       intro A3 c3 w9 ho9 hg9 hb9
       have HM9 := Lib.hid ((HM8.out.alloc (.cells #[.string x8] 9)).grown hg9 (fun k hk => by have := (HO8.out.blk hk).1; omega))
       have d5 := HM9.out.1.cell 2; have e5 := HM9.out.1.frozen 2
       simp only [List.getElem?_cons_zero, List.getElem?_cons_succ] at d5
       (try (refine hK _ _ ?_; clear hK K))
       (try simp only [Act.put, List.setIfInBounds_toArray, List.set_cons_zero, List.set_cons_succ])
       refine wpAny_ready (rs := [7]) (by kernel_rfl) (by simp) ?_
       refine AllReady.cons (o := _) rfl (fun K hK => ?_) (AllReady.nil)
       go_simp
       (try (refine hK _ _ ?_; clear hK K))
       (try simp only [Act.put, List.setIfInBounds_toArray, List.set_cons_zero, List.set_cons_succ])
       refine wpAny_ready (rs := [8]) (by kernel_rfl) (by simp) ?_
       refine AllReady.cons (o := _) rfl (fun K hK => ?_) (AllReady.nil)
       go_simp
       (try (refine hK _ _ ?_; clear hK K))
       (try simp only [Act.put, List.setIfInBounds_toArray, List.set_cons_zero, List.set_cons_succ])
       refine wpAny_done (by kernel_rfl) ?_ _
       (try simp only [Act.put, List.setIfInBounds_toArray, List.set_cons_zero, List.set_cons_succ])
       have HZ9 := Lib.hid (good_snoc HZ.out gx8)
       have HMF := Lib.hid (HM9.out.put (v' := .slice A3 (m + 1) c3))
       have HOF := Lib.hid (own_put (b := w3.heap.size) (v' := .slice A3 (m + 1) c3) ho9 (by omega))
       clear d2 d3 d4 d5 e2 e5
       go_wp2
       go_roundw
       case rel => exact ⟨k - 1, m + 1, A3, c3, L ++ [x8], by omega, by go_num, Lib.hid (HMF.out.mono (by omega)), HOF, HZ9, HMF.out.1.lt⟩
       case measure => simp [intOf]; omega
      ·go_simp
       (try (refine hK _ _ ?_; clear hK K))
       (try simp only [Act.put, List.setIfInBounds_toArray, List.set_cons_zero, List.set_cons_succ])
       refine wpAny_ready (rs := [1]) (by kernel_rfl) (by simp) ?_
       refine AllReady.cons (o := _) rfl (fun K hK => ?_) (AllReady.nil)
       go_simp
       (try (refine hK _ _ ?_; clear hK K))
       (try simp only [Act.put, List.setIfInBounds_toArray, List.set_cons_zero, List.set_cons_succ])
       refine wpAny_ready (rs := [6]) (by kernel_rfl) (by simp) ?_
       refine AllReady.cons (o := _) rfl (fun K hK => ?_) (AllReady.nil)
       refine step_append_rec Tryz.elStr (by rfl) _ _ (by rfl) (by rfl) (HO8.out.alloc _) x8 (by rfl) (Box.at_ _ [.string x8] _ (by rfl)) (strE_one _) (by omega) (by decide) (by have h1 := HM8.out.1.lt; have h2 := hg8.size; simp at h2 ⊢; omega) ?_
       intro A3 c3 w9 ho9 hg9 hb9
       have HM9 := Lib.hid ((HM8.out.alloc (.cells #[.string x8] 9)).grown hg9 (fun k hk => by have := (HO8.out.blk hk).1; omega))
       have d5 := HM9.out.1.cell 2; have e5 := HM9.out.1.frozen 2
       simp only [List.getElem?_cons_zero, List.getElem?_cons_succ] at d5
       (try (refine hK _ _ ?_; clear hK K))
       (try simp only [Act.put, List.setIfInBounds_toArray, List.set_cons_zero, List.set_cons_succ])
       refine wpAny_ready (rs := [7]) (by kernel_rfl) (by simp) ?_
       refine AllReady.cons (o := _) rfl (fun K hK => ?_) (AllReady.nil)
       go_simp
       (try (refine hK _ _ ?_; clear hK K))
       (try simp only [Act.put, List.setIfInBounds_toArray, List.set_cons_zero, List.set_cons_succ])
       refine wpAny_ready (rs := [8]) (by kernel_rfl) (by simp) ?_
       refine AllReady.cons (o := _) rfl (fun K hK => ?_) (AllReady.nil)
       go_simp
       (try (refine hK _ _ ?_; clear hK K))
       (try simp only [Act.put, List.setIfInBounds_toArray, List.set_cons_zero, List.set_cons_succ])
       refine wpAny_done (by kernel_rfl) ?_ _
       (try simp only [Act.put, List.setIfInBounds_toArray, List.set_cons_zero, List.set_cons_succ])
       have HZ9 := Lib.hid (good_snoc HZ.out gx8)
       have HMF := Lib.hid (HM9.out.put (v' := .slice A3 (m + 1) c3))
       have HOF := Lib.hid (own_put (b := w3.heap.size) (v' := .slice A3 (m + 1) c3) ho9 (by omega))
       clear d2 d3 d4 d5 e2 e5
       go_wp2
       go_roundw
       case rel => exact ⟨k - 1, m + 1, A3, c3, L ++ [x8], by omega, by go_num, Lib.hid (HMF.out.mono (by omega)), HOF, HZ9, HMF.out.1.lt⟩
       case measure => simp [intOf]; omega
    ·obtain rfl : k = 0 := by omega
     have hOl := HO.out.len
     obtain ⟨K1, K2, ⟨rx, ry, rz, K3⟩, K4, K5, K6⟩ := HM.out
     have kc0 := K1.cell 0; have kc1 := K1.cell 1; have kc2 := K1.cell 2
     have kd0 := K3.cell 0; have kd1 := K3.cell 1; have kd2 := K3.cell 2
     have kf0 := K3.frozen 0; have kf1 := K3.frozen 1; have kf2 := K3.frozen 2
     simp only [List.getElem?_cons_zero, List.getElem?_cons_succ] at kc0 kc1 kc2 kd0 kd1 kd2
     have Z := ((K3.set_ 0 (.string nm)).set_ 1 (.int .i64 (st : Int))).set_ 2 (.slice A2 (m) c2)
     have y0 := Z.cell 0; have y1 := Z.cell 1; have y2 := Z.cell 2
     simp only [List.set_cons_zero, List.set_cons_succ, List.getElem?_cons_zero, List.getElem?_cons_succ] at y0 y1 y2
     have HK := Lib.hid K2; have HGR := Lib.hid K4
     clear K1 K2 K3 K4 Z
     go_wp2_with fail
     refine bodyPost_ret (v := .agg #[.string nm, .int .i64 (st : Int), .slice A2 (m) c2]) (by simp [results, Tryz.results180, go_sem, y0, y1, y2]) rfl ?_
     exact fin.out _ _ _ _ _ _ HGR.out (HK.out.mono (by omega)) HO.out (by omega) (by omega) HZ.out (grownBy_trans (grownBy_trans (only_set _ (p := ⟨w.heap.size, 0, none⟩) _) (only_set _ (p := ⟨w.heap.size, 1, none⟩) _)) (only_set _ (p := ⟨w.heap.size, 2, none⟩) _))
  ·go_wp2_with fail
   refine (cur_pick HS.out (G.out _ HM6.out.2.2.2.1) hp HM6.out.2.1 (by omega) (by decide) (by decide)).mono ?_; rintro e w7 ⟨x, rfl, ⟨x0, x1⟩, hc7, hg7⟩
   have HM7 := Lib.hid (HM6.out.draw hg7 hc7)
   obtain ⟨X, rfl⟩ := Int.eq_ofNat_of_zero_le x0
   have hX : X ≤ 3 := by omega
   clear hc7 hg7 x0 x1
   go_wp2
   go_loopw [6, 7] (fun v i wr => ∃ (k m : Nat) (A' : Option Addr) (c' : Nat) (H : List ByteArray), k + m = X + 1 ∧ i = .int .i64 k ∧ v = .slice A' m c' ∧ Hid (MSt w wr p A n c (a + 10 + m) w3.heap.size nm st (.slice none 0 0)) ∧ Hid (Owned strE 1 9 wr (w3.heap.size + 1) A' m c' H) ∧ Hid (∀ x ∈ H, goodChange st x = true) ∧ w3.heap.size < wr.heap.size) (fun _ i _ => (intOf i).toNat)
   case atStart => exact ⟨X + 1, 0, none, 0, [], rfl, by go_num, rfl, Lib.hid (HM7.out.mono (by omega)), Lib.hid (Owned.nil strE_len _ _ _), Lib.hid (fun s hs => by cases hs), HM7.out.1.lt⟩
   case round =>
    obtain ⟨k, m, A2, c2, H, hkm, rfl, rfl, HM, HO, HZ, hbr⟩ := hrel
    rename World => wr
    by_cases h0 : 0 < k
    ·have hI : (0 : Int) < (k : Int) := by omega
     have hOl := HO.out.len
     go_wp2_with fail
     refine (cur_change HS.out (G.out _ HM.out.2.2.2.1) hp HM.out.2.1 (by omega) (by omega) (by omega)).mono ?_; rintro e w8 ⟨x8, rfl, gx8, zx8, hc8, hg8⟩
     have HM8 := Lib.hid (HM.out.draw hg8 hc8)
     have HO8 := Lib.hid (HO.out.past hg8 (by have := HM.out.2.2.2.2; omega))
     have hs8 := HM8.out.1.lt
     have HZ9 := Lib.hid (good_snoc HZ.out gx8)
     clear hc8 hg8
     go_wp2_with (first | (at_builtin; go_must ((refine wpList_append_recs Tryz.elStr strE_one rfl (.tmp 60) (.tmp 64) rfl rfl (HO8.out.alloc _) rfl (own_lit1_at' strE_len _ 9 x8 rfl (Nat.le_refl _)).recs rfl ?_ (by decide) ?_ ?_; (focus (first | omega | (simp only [World.size_alloc]; done) | (simp only [World.size_alloc]; omega) | (simp; done) | (simp; omega))); (simp; omega); intro A3 c3 w9 ho9 hg9 hl9; have HM9 := Lib.hid ((HM8.out.alloc (.cells ⟨[Value.string x8]⟩ 9)).grown hg9 (fun k hk => by have := (HO8.out.blk hk).1; omega))))))
     go_roundw
     case rel => exact ⟨k - 1, m + 1, A3, c3, H ++ [x8], by omega, by go_num, rfl, Lib.hid (HM9.out.mono (by omega)), Lib.hid ho9, HZ9, HM9.out.1.lt⟩
     case measure => simp [intOf]; omega
    ·obtain rfl : k = 0 := by omega
     have hHl := HO.out.len
     obtain ⟨gH, rfl, gH0, gH1, _, _⟩ := HO.out.at_ (by omega)
     have HR := Lib.hid HO.out.recs
     have HG := Lib.hid HZ.out
     go_wp2_with fail
     refine (spec_l1OwnS hHl HR.out (by omega)).mono ?_; rintro e w8 ⟨A3, c3, rfl, ho3, hb3⟩
     have HM3 := Lib.hid (HM.out.up hb3)
     have HR3 := Lib.hid (HR.out.up hb3)
     have hs3 := hb3.size
     clear hb3
     go_wp2_with fail
     refine (cur_change HS.out (G.out _ HM3.out.2.2.2.1) hp HM3.out.2.1 (by omega) (by omega) (by omega)).mono ?_; rintro e w9 ⟨x9, rfl, gx9, zx9, hc9, hg9⟩
     have hpb := HM3.out.2.2.2.2
     have HM4 := Lib.hid (HM3.out.draw hg9 hc9)
     have HO4 := Lib.hid (ho3.past hg9 (by omega))
     have HR4 := Lib.hid (strs_grown HR3.out hg9 (fun e => by injection e with e; omega))
     have hs9 := hg9.size
     have HZ4 := Lib.hid (good_snoc HZ.out gx9)
     have HML := Lib.hid (HM4.out.alloc (.cells ⟨[Value.string x9]⟩ 9))
     have HRL := Lib.hid (HR4.out.alloc (.cells ⟨[Value.string x9]⟩ 9))
     have hs9' : wr.heap.size ≤ (w9.alloc (.cells ⟨[Value.string x9]⟩ 9)).heap.size := by simp; omega
     obtain ⟨wb, hwb⟩ : ∃ b, b = wr.heap.size := ⟨_, rfl⟩
     rw [← hwb] at ho3 HO4 gH1 hs3 hs9' 
     clear hc9 hg9 ho3 HM3 HR3
     go_wp2_with (first | (at_builtin; go_must ((refine wpList_append_recs Tryz.elStr strE_one rfl (.tmp 67) (.tmp 71) rfl rfl (HO4.out.alloc _) rfl (own_lit1_at' strE_len _ 9 x9 rfl (Nat.le_refl _)).recs rfl ?_ (by decide) ?_ ?_; (focus (first | omega | (simp only [World.size_alloc]; done) | (simp only [World.size_alloc]; omega) | (simp; done) | (simp; omega))); (simp; omega); intro A5 c5 w10 ho5 hg5 hl5; have HM5 := Lib.hid (HML.out.grown hg5 (fun k hk => by have := (HO4.out.blk hk).1; omega)); have HR5 := Lib.hid (strs_grown HRL.out hg5 (fun e => by have := (HO4.out.blk e.symm).1; omega)); have g2 := HM5.out.1.cell 2; have e2 := HM5.out.1.frozen 2; simp only [List.getElem?_cons_zero, List.getElem?_cons_succ] at g2; have HMF := Lib.hid (HM5.out.put (v' := .slice A5 (m + 1) c5)); have HOF := Lib.hid (own_put (b := w3.heap.size) (v' := .slice A5 (m + 1) c5) ho5 (by omega)); have HRF := Lib.hid (strs_grown HR5.out (only_set w10 (p := ⟨w3.heap.size, 2, none⟩) (.slice A5 (m + 1) c5)) (fun e => by injection e with e; dsimp only at e; omega))))))
     obtain ⟨w11, hw11⟩ : ∃ u, u = w10.setCell ⟨w3.heap.size, 2, none⟩ (.slice A5 (m + 1) c5) := ⟨_, rfl⟩
     rw [← hw11] at HMF HOF HRF ⊢
     have hB4 : w3.heap.size < wb := by omega
     have hs11 : wb ≤ w11.heap.size := by have := hg5.size; rw [hw11]; simp at this ⊢; omega
     clear hw11 ho5 hg5 hl5 HM5 HR5 g2 e2 HM4 HO4 HR4 HML HRL
     go_wp2
     go_loopw [8] (fun i wr => ∃ (k q : Nat) (A' : Option Addr) (c' : Nat) (L : List ByteArray), k + q = m ∧ i = .int .i64 ((k : Int) - 1) ∧ Hid (MSt w wr p A n c (a + 20 + m) w3.heap.size nm st (.slice A' (m + 1 + q) c')) ∧ Hid (Owned strE 1 9 wr wb A' (m + 1 + q) c' L) ∧ Hid (∀ x ∈ L, goodChange st x = true) ∧ Hid (Strs wr (some ⟨gH, 0, none⟩) H) ∧ wb ≤ wr.heap.size) (fun i _ => (intOf i + 1).toNat)
     case atStart => exact ⟨m, 0, A5, c5, H ++ [x9], rfl, by go_num, Lib.hid (HMF.out.mono (by omega)), HOF, HZ4, HRF, hs11⟩
     case round =>
      obtain ⟨k, q, A2, c2, L, hkq, rfl, HM, HO, HZ, HR, hsr⟩ := hrel
      rename World => wr
      have hOl := HO.out.len
      rcases k with _ | k
      ·rw [show (((0 : Nat) : Int) - 1) = -1 by omega]
       obtain rfl : q = m := by omega
       go_upto_region 23 with fail
       obtain ⟨K1, _, _, _, K5, K6⟩ := HM.out
       have d2 := K1.cell 2; have e2 := K1.frozen 2
       simp only [List.getElem?_cons_zero, List.getElem?_cons_succ] at d2
       clear K1
       refine wp_region_any (by kernel_rfl) ?_
       (try (change wpAny _ _ _ _ _ _ _ (World.drew _)))
       refine wpAny_take (i := 0) (oi := { dst := some 90, op := _, type := _, pos := _, after := _, guard := _ }) (v := ?_) rfl (by kernel_rfl) (by kernel_rfl) (by kernel_rfl) (fun _ _ _ h => h) (Or.inl ⟨by rfl, ?_⟩) ?_
       rotate_left
       ·(intro w; go_simp) <;> with_reducible rfl
       (try simp only [Act.put, List.setIfInBounds_toArray, List.set_cons_zero, List.set_cons_succ])
       refine wpAny_take (i := 2) (oi := { dst := some 92, op := _, type := _, pos := _, after := _, guard := _ }) (v := ?_) rfl (by kernel_rfl) (by kernel_rfl) (by kernel_rfl) (fun _ _ _ h => h) (Or.inl ⟨by rfl, ?_⟩) ?_
       rotate_left
       ·(intro w; go_simp) <;> with_reducible rfl
       (try simp only [Act.put, List.setIfInBounds_toArray, List.set_cons_zero, List.set_cons_succ])
       refine wpAny_take (i := 3) (oi := { dst := some 93, op := _, type := _, pos := _, after := _, guard := _ }) (v := ?_) rfl (by kernel_rfl) (by kernel_rfl) (by kernel_rfl) (fun _ _ _ h => h) (Or.inl ⟨by rfl, ?_⟩) ?_
       rotate_left
       ·(intro w; go_simp) <;> with_reducible rfl
       (try simp only [Act.put, List.setIfInBounds_toArray, List.set_cons_zero, List.set_cons_succ])
       refine wpAny_ready (rs := [1, 4]) (by kernel_rfl) (by simp) ?_
       refine AllReady.cons (o := _) rfl (fun K hK => ?_) (AllReady.cons (o := _) rfl (fun K hK => ?_) (AllReady.nil))
       ·go_simp
        (try (refine hK _ _ ?_; clear hK K))
        (try simp only [Act.put, List.setIfInBounds_toArray, List.set_cons_zero, List.set_cons_succ])
        refine wpAny_ready (rs := [4]) (by kernel_rfl) (by simp) ?_
        refine AllReady.cons (o := _) rfl (fun K hK => ?_) (AllReady.nil)
        go_simp
        refine (cur_change HS.out (G.out _ HM.out.drew.2.2.2.1) hp HM.out.drew.2.1 (by omega) (by omega) (by omega)).mono ?_; rintro e w8 ⟨x8, rfl, gx8, zx8, hc8, hg8⟩
        have HM8 := Lib.hid (HM.out.drew.draw hg8 hc8)
        have HO8 := Lib.hid ((HO.out.up (below_drewN (Below.refl _ _) 1)).past hg8 (by omega))
        have d3 := HM8.out.1.cell 2
        simp only [List.getElem?_cons_zero, List.getElem?_cons_succ] at d3
        have d4 := (HM8.out.alloc (.cells #[.string x8] 9)).1.cell 2
        simp only [List.getElem?_cons_zero, List.getElem?_cons_succ] at d4
        try go_wp2_with fail
        (try (refine hK _ _ ?_; clear hK K))
        (try simp only [Act.put, List.setIfInBounds_toArray, List.set_cons_zero, List.set_cons_succ])
        refine wpAny_ready (rs := [5]) (by kernel_rfl) (by simp) ?_
        refine AllReady.cons (o := _) rfl (fun K hK => ?_) (AllReady.nil)
        go_simp
        (try (refine hK _ _ ?_; clear hK K))
        (try simp only [Act.put, List.setIfInBounds_toArray, List.set_cons_zero, List.set_cons_succ])
        refine wpAny_ready (rs := [6]) (by kernel_rfl) (by simp) ?_
        refine AllReady.cons (o := _) rfl (fun K hK => ?_) (AllReady.nil)
        refine step_append_rec Tryz.elStr (by rfl) _ _ (by rfl) (by rfl) (HO8.out.alloc _) x8 (by rfl) (Box.at_ _ [.string x8] _ (by rfl)) (strE_one _) (by omega) (by decide) (by have h1 := HM8.out.1.lt; have h2 := hg8.size; simp at h2 ⊢; omega) ?_
        intro A3 c3 w9 ho9 hg9 hb9
        have HM9 := Lib.hid ((HM8.out.alloc (.cells #[.string x8] 9)).grown hg9 (fun k hk => by have := (HO8.out.blk hk).1; omega))
        have d5 := HM9.out.1.cell 2; have e5 := HM9.out.1.frozen 2
        simp only [List.getElem?_cons_zero, List.getElem?_cons_succ] at d5
        (try (refine hK _ _ ?_; clear hK K))
        (try simp only [Act.put, List.setIfInBounds_toArray, List.set_cons_zero, List.set_cons_succ])
        refine wpAny_ready (rs := [7]) (by kernel_rfl) (by simp) ?_
        refine AllReady.cons (o := _) rfl (fun K hK => ?_) (AllReady.nil)
        go_simp
        (try (refine hK _ _ ?_; clear hK K))
        (try simp only [Act.put, List.setIfInBounds_toArray, List.set_cons_zero, List.set_cons_succ])
        refine wpAny_ready (rs := [8]) (by kernel_rfl) (by simp) ?_
        refine AllReady.cons (o := _) rfl (fun K hK => ?_) (AllReady.nil)
        go_simp
        (try (refine hK _ _ ?_; clear hK K))
        (try simp only [Act.put, List.setIfInBounds_toArray, List.set_cons_zero, List.set_cons_succ])
        refine wpAny_done (by kernel_rfl) ?_ _
        (try simp only [Act.put, List.setIfInBounds_toArray, List.set_cons_zero, List.set_cons_succ])
        have HZ := Lib.hid (good_snoc HZ.out gx8)
        have HM := Lib.hid (HM9.out.put (v' := .slice A3 (q + 1 + q + 1) c3))
        have HO := Lib.hid ((own_put (b := w3.heap.size) (v' := .slice A3 (q + 1 + q + 1) c3) ho9 (by omega)).base_le (show w3.heap.size + 1 ≤ wb by omega))
        clear d2 d3 d4 d5 e2 e5 HM8 HO8 HM9 ho9 hg9 hb9 hc8 hg8 K5 K6
        obtain ⟨K1, K2, ⟨rx, ry, rz, K3⟩, K4, K5, K6⟩ := HM.out
        have kc0 := K1.cell 0; have kc1 := K1.cell 1; have kc2 := K1.cell 2
        have kd0 := K3.cell 0; have kd1 := K3.cell 1; have kd2 := K3.cell 2
        have kf0 := K3.frozen 0; have kf1 := K3.frozen 1; have kf2 := K3.frozen 2
        simp only [List.getElem?_cons_zero, List.getElem?_cons_succ] at kc0 kc1 kc2 kd0 kd1 kd2
        have Z := ((K3.set_ 0 (.string nm)).set_ 1 (.int .i64 (st : Int))).set_ 2 (.slice A3 (q + 1 + q + 1) c3)
        have y0 := Z.cell 0; have y1 := Z.cell 1; have y2 := Z.cell 2
        simp only [List.set_cons_zero, List.set_cons_succ, List.getElem?_cons_zero, List.getElem?_cons_succ] at y0 y1 y2
        have HK := Lib.hid K2; have HGR := Lib.hid K4
        clear K1 K2 K3 K4 Z
        go_wp2_with fail
        refine bodyPost_ret (v := .agg #[.string nm, .int .i64 (st : Int), .slice A3 (q + 1 + q + 1) c3]) (by simp [results, Tryz.results180, go_sem, y0, y1, y2]) rfl ?_
        exact fin.out _ _ _ _ _ _ HGR.out (HK.out.mono (by omega)) HO.out (by omega) (by omega) HZ.out (grownBy_trans (grownBy_trans (only_set _ (p := ⟨w.heap.size, 0, none⟩) _) (only_set _ (p := ⟨w.heap.size, 1, none⟩) _)) (only_set _ (p := ⟨w.heap.size, 2, none⟩) _))
       ·go_simp
        refine (cur_change HS.out (G.out _ HM.out.drew.2.2.2.1) hp HM.out.drew.2.1 (by omega) (by omega) (by omega)).mono ?_; rintro e w8 ⟨x8, rfl, gx8, zx8, hc8, hg8⟩
        have HM8 := Lib.hid (HM.out.drew.draw hg8 hc8)
        have HO8 := Lib.hid ((HO.out.up (below_drewN (Below.refl _ _) 1)).past hg8 (by omega))
        have d3 := HM8.out.1.cell 2
        simp only [List.getElem?_cons_zero, List.getElem?_cons_succ] at d3
        have d4 := (HM8.out.alloc (.cells #[.string x8] 9)).1.cell 2
        simp only [List.getElem?_cons_zero, List.getElem?_cons_succ] at d4
        try go_wp2_with fail
        (try (refine hK _ _ ?_; clear hK K))
        (try simp only [Act.put, List.setIfInBounds_toArray, List.set_cons_zero, List.set_cons_succ])
        refine wpAny_ready (rs := [1, 5]) (by kernel_rfl) (by simp) ?_
        refine AllReady.cons (o := _) rfl (fun K hK => ?_) (AllReady.cons (o := _) rfl (fun K hK => ?_) (AllReady.nil))
        ·go_simp
         (try (refine hK _ _ ?_; clear hK K))
         (try simp only [Act.put, List.setIfInBounds_toArray, List.set_cons_zero, List.set_cons_succ])
         refine wpAny_ready (rs := [5]) (by kernel_rfl) (by simp) ?_
         refine AllReady.cons (o := _) rfl (fun K hK => ?_) (AllReady.nil)
         go_simp
         (try (refine hK _ _ ?_; clear hK K))
         (try simp only [Act.put, List.setIfInBounds_toArray, List.set_cons_zero, List.set_cons_succ])
         refine wpAny_ready (rs := [6]) (by kernel_rfl) (by simp) ?_
         refine AllReady.cons (o := _) rfl (fun K hK => ?_) (AllReady.nil)
         refine step_append_rec Tryz.elStr (by rfl) _ _ (by rfl) (by rfl) (HO8.out.alloc _) x8 (by rfl) (Box.at_ _ [.string x8] _ (by rfl)) (strE_one _) (by omega) (by decide) (by have h1 := HM8.out.1.lt; have h2 := hg8.size; simp at h2 ⊢; omega) ?_
         intro A3 c3 w9 ho9 hg9 hb9
         have HM9 := Lib.hid ((HM8.out.alloc (.cells #[.string x8] 9)).grown hg9 (fun k hk => by have := (HO8.out.blk hk).1; omega))
         have d5 := HM9.out.1.cell 2; have e5 := HM9.out.1.frozen 2
         simp only [List.getElem?_cons_zero, List.getElem?_cons_succ] at d5
         (try (refine hK _ _ ?_; clear hK K))
         (try simp only [Act.put, List.setIfInBounds_toArray, List.set_cons_zero, List.set_cons_succ])
         refine wpAny_ready (rs := [7]) (by kernel_rfl) (by simp) ?_
         refine AllReady.cons (o := _) rfl (fun K hK => ?_) (AllReady.nil)
         go_simp
         (try (refine hK _ _ ?_; clear hK K))
         (try simp only [Act.put, List.setIfInBounds_toArray, List.set_cons_zero, List.set_cons_succ])
         refine wpAny_ready (rs := [8]) (by kernel_rfl) (by simp) ?_
         refine AllReady.cons (o := _) rfl (fun K hK => ?_) (AllReady.nil)
         go_simp
         (try (refine hK _ _ ?_; clear hK K))
         (try simp only [Act.put, List.setIfInBounds_toArray, List.set_cons_zero, List.set_cons_succ])
         refine wpAny_done (by kernel_rfl) ?_ _
         (try simp only [Act.put, List.setIfInBounds_toArray, List.set_cons_zero, List.set_cons_succ])
         have HZ := Lib.hid (good_snoc HZ.out gx8)
         have HM := Lib.hid (HM9.out.put (v' := .slice A3 (q + 1 + q + 1) c3))
         have HO := Lib.hid ((own_put (b := w3.heap.size) (v' := .slice A3 (q + 1 + q + 1) c3) ho9 (by omega)).base_le (show w3.heap.size + 1 ≤ wb by omega))
         clear d2 d3 d4 d5 e2 e5 HM8 HO8 HM9 ho9 hg9 hb9 hc8 hg8 K5 K6
         obtain ⟨K1, K2, ⟨rx, ry, rz, K3⟩, K4, K5, K6⟩ := HM.out
         have kc0 := K1.cell 0; have kc1 := K1.cell 1; have kc2 := K1.cell 2
         have kd0 := K3.cell 0; have kd1 := K3.cell 1; have kd2 := K3.cell 2
         have kf0 := K3.frozen 0; have kf1 := K3.frozen 1; have kf2 := K3.frozen 2
         simp only [List.getElem?_cons_zero, List.getElem?_cons_succ] at kc0 kc1 kc2 kd0 kd1 kd2
         have Z := ((K3.set_ 0 (.string nm)).set_ 1 (.int .i64 (st : Int))).set_ 2 (.slice A3 (q + 1 + q + 1) c3)
         have y0 := Z.cell 0; have y1 := Z.cell 1; have y2 := Z.cell 2
         simp only [List.set_cons_zero, List.set_cons_succ, List.getElem?_cons_zero, List.getElem?_cons_succ] at y0 y1 y2
         have HK := Lib.hid K2; have HGR := Lib.hid K4
         clear K1 K2 K3 K4 Z
         go_wp2_with fail
         refine bodyPost_ret (v := .agg #[.string nm, .int .i64 (st : Int), .slice A3 (q + 1 + q + 1) c3]) (by simp [results, Tryz.results180, go_sem, y0, y1, y2]) rfl ?_
         exact fin.out _ _ _ _ _ _ HGR.out (HK.out.mono (by omega)) HO.out (by omega) (by omega) HZ.out (grownBy_trans (grownBy_trans (only_set _ (p := ⟨w.heap.size, 0, none⟩) _) (only_set _ (p := ⟨w.heap.size, 1, none⟩) _)) (only_set _ (p := ⟨w.heap.size, 2, none⟩) _))
        ·go_simp
         (try (refine hK _ _ ?_; clear hK K))
         (try simp only [Act.put, List.setIfInBounds_toArray, List.set_cons_zero, List.set_cons_succ])
         refine wpAny_ready (rs := [1]) (by kernel_rfl) (by simp) ?_
         refine AllReady.cons (o := _) rfl (fun K hK => ?_) (AllReady.nil)
         go_simp
         (try (refine hK _ _ ?_; clear hK K))
         (try simp only [Act.put, List.setIfInBounds_toArray, List.set_cons_zero, List.set_cons_succ])
         refine wpAny_ready (rs := [6]) (by kernel_rfl) (by simp) ?_
         refine AllReady.cons (o := _) rfl (fun K hK => ?_) (AllReady.nil)
         refine step_append_rec Tryz.elStr (by rfl) _ _ (by rfl) (by rfl) (HO8.out.alloc _) x8 (by rfl) (Box.at_ _ [.string x8] _ (by rfl)) (strE_one _) (by omega) (by decide) (by have h1 := HM8.out.1.lt; have h2 := hg8.size; simp at h2 ⊢; omega) ?_
         intro A3 c3 w9 ho9 hg9 hb9
         have HM9 := Lib.hid ((HM8.out.alloc (.cells #[.string x8] 9)).grown hg9 (fun k hk => by have := (HO8.out.blk hk).1; omega))
         have d5 := HM9.out.1.cell 2; have e5 := HM9.out.1.frozen 2
         simp only [List.getElem?_cons_zero, List.getElem?_cons_succ] at d5
         (try (refine hK _ _ ?_; clear hK K))
         (try simp only [Act.put, List.setIfInBounds_toArray, List.set_cons_zero, List.set_cons_succ])
         refine wpAny_ready (rs := [7]) (by kernel_rfl) (by simp) ?_
         refine AllReady.cons (o := _) rfl (fun K hK => ?_) (AllReady.nil)
         go_simp
         (try (refine hK _ _ ?_; clear hK K))
         (try simp only [Act.put, List.setIfInBounds_toArray, List.set_cons_zero, List.set_cons_succ])
         refine wpAny_ready (rs := [8]) (by kernel_rfl) (by simp) ?_
         refine AllReady.cons (o := _) rfl (fun K hK => ?_) (AllReady.nil)
         go_simp
         (try (refine hK _ _ ?_; clear hK K))
         (try simp only [Act.put, List.setIfInBounds_toArray, List.set_cons_zero, List.set_cons_succ])
         refine wpAny_done (by kernel_rfl) ?_ _
         (try simp only [Act.put, List.setIfInBounds_toArray, List.set_cons_zero, List.set_cons_succ])
         have HZ := Lib.hid (good_snoc HZ.out gx8)
         have HM := Lib.hid (HM9.out.put (v' := .slice A3 (q + 1 + q + 1) c3))
         have HO := Lib.hid ((own_put (b := w3.heap.size) (v' := .slice A3 (q + 1 + q + 1) c3) ho9 (by omega)).base_le (show w3.heap.size + 1 ≤ wb by omega))
         clear d2 d3 d4 d5 e2 e5 HM8 HO8 HM9 ho9 hg9 hb9 hc8 hg8 K5 K6
         obtain ⟨K1, K2, ⟨rx, ry, rz, K3⟩, K4, K5, K6⟩ := HM.out
         have kc0 := K1.cell 0; have kc1 := K1.cell 1; have kc2 := K1.cell 2
         have kd0 := K3.cell 0; have kd1 := K3.cell 1; have kd2 := K3.cell 2
         have kf0 := K3.frozen 0; have kf1 := K3.frozen 1; have kf2 := K3.frozen 2
         simp only [List.getElem?_cons_zero, List.getElem?_cons_succ] at kc0 kc1 kc2 kd0 kd1 kd2
         have Z := ((K3.set_ 0 (.string nm)).set_ 1 (.int .i64 (st : Int))).set_ 2 (.slice A3 (q + 1 + q + 1) c3)
         have y0 := Z.cell 0; have y1 := Z.cell 1; have y2 := Z.cell 2
         simp only [List.set_cons_zero, List.set_cons_succ, List.getElem?_cons_zero, List.getElem?_cons_succ] at y0 y1 y2
         have HK := Lib.hid K2; have HGR := Lib.hid K4
         clear K1 K2 K3 K4 Z
         go_wp2_with fail
         refine bodyPost_ret (v := .agg #[.string nm, .int .i64 (st : Int), .slice A3 (q + 1 + q + 1) c3]) (by simp [results, Tryz.results180, go_sem, y0, y1, y2]) rfl ?_
         exact fin.out _ _ _ _ _ _ HGR.out (HK.out.mono (by omega)) HO.out (by omega) (by omega) HZ.out (grownBy_trans (grownBy_trans (only_set _ (p := ⟨w.heap.size, 0, none⟩) _) (only_set _ (p := ⟨w.heap.size, 1, none⟩) _)) (only_set _ (p := ⟨w.heap.size, 2, none⟩) _))
      ·rw [show (((k + 1 : Nat) : Int) - 1) = (k : Int) by omega]
       have hI : (0 : Int) ≤ (k : Int) := by omega
       obtain ⟨b3, o3, y, hA, hbb, hy, hcy⟩ := HR.out.at_str (k := k) (by omega)
       injection hA with hA
       injection hA with e1 e2 _
       subst e1 e2
       have gy := HG.out y (List.mem_of_getElem? hy)
       obtain ⟨K1, _, _, _, K5, K6⟩ := HM.out
       have d2 := K1.cell 2; have e2 := K1.frozen 2
       have d4 := (HM.out.alloc (.cells #[.string y] 9)).1.cell 2
       have hJ : (k : Int) < (m : Int) := by omega
       simp only [List.getElem?_cons_zero, List.getElem?_cons_succ, Nat.zero_add] at d2 d4 hcy
       have HO8 := Lib.hid (HO.out.up (below_drewN (Below.refl _ _) 1))
       clear K1 hy
       go_upto_region 22 with fail
       refine wp_region_any (by kernel_rfl) ?_
       (try (change wpAny _ _ _ _ _ _ _ (World.drew _)))
       refine wpAny_take (i := 0) (oi := { dst := some 81, op := _, type := _, pos := _, after := _, guard := _ }) (v := ?_) rfl (by kernel_rfl) (by kernel_rfl) (by kernel_rfl) (fun _ _ _ h => h) (Or.inl ⟨by rfl, ?_⟩) ?_
       rotate_left
       ·(intro w; go_simp) <;> with_reducible rfl
       (try simp only [Act.put, List.setIfInBounds_toArray, List.set_cons_zero, List.set_cons_succ])
       refine wpAny_take (i := 2) (oi := { dst := some 83, op := _, type := _, pos := _, after := _, guard := _ }) (v := ?_) rfl (by kernel_rfl) (by kernel_rfl) (by kernel_rfl) (fun _ _ _ h => h) (Or.inl ⟨by rfl, ?_⟩) ?_
       rotate_left
       ·(intro w; go_simp) <;> with_reducible rfl
       (try simp only [Act.put, List.setIfInBounds_toArray, List.set_cons_zero, List.set_cons_succ])
       refine wpAny_take (i := 3) (oi := { dst := some 84, op := _, type := _, pos := _, after := _, guard := _ }) (v := ?_) rfl (by kernel_rfl) (by kernel_rfl) (by kernel_rfl) (fun _ _ _ h => h) (Or.inl ⟨by rfl, ?_⟩) ?_
       rotate_left
       ·(intro w; go_simp) <;> with_reducible rfl
       (try simp only [Act.put, List.setIfInBounds_toArray, List.set_cons_zero, List.set_cons_succ])
       refine wpAny_take (i := 4) (oi := { dst := some 85, op := _, type := _, pos := _, after := _, guard := _ }) (v := ?_) rfl (by kernel_rfl) (by kernel_rfl) (by kernel_rfl) (fun _ _ _ h => h) (Or.inl ⟨by rfl, ?_⟩) ?_
       rotate_left
       ·(intro w; go_simp) <;> with_reducible rfl
       (try simp only [Act.put, List.setIfInBounds_toArray, List.set_cons_zero, List.set_cons_succ])
       refine wpAny_ready (rs := [1, 5]) (by kernel_rfl) (by simp) ?_
       refine AllReady.cons (o := _) rfl (fun K hK => ?_) (AllReady.cons (o := _) rfl (fun K hK => ?_) (AllReady.nil))
       ·go_simp
        (try (refine hK _ _ ?_; clear hK K))
        (try simp only [Act.put, List.setIfInBounds_toArray, List.set_cons_zero, List.set_cons_succ])
        refine wpAny_ready (rs := [5]) (by kernel_rfl) (by simp) ?_
        refine AllReady.cons (o := _) rfl (fun K hK => ?_) (AllReady.nil)
        go_simp
        (try (refine hK _ _ ?_; clear hK K))
        (try simp only [Act.put, List.setIfInBounds_toArray, List.set_cons_zero, List.set_cons_succ])
        refine wpAny_ready (rs := [6]) (by kernel_rfl) (by simp) ?_
        refine AllReady.cons (o := _) rfl (fun K hK => ?_) (AllReady.nil)
        go_simp
        (try (refine hK _ _ ?_; clear hK K))
        (try simp only [Act.put, List.setIfInBounds_toArray, List.set_cons_zero, List.set_cons_succ])
        refine wpAny_ready (rs := [7]) (by kernel_rfl) (by simp) ?_
        refine AllReady.cons (o := _) rfl (fun K hK => ?_) (AllReady.nil)
        refine step_append_rec Tryz.elStr (by rfl) _ _ (by rfl) (by rfl) (HO8.out.alloc _) y (by rfl) (Box.at_ _ [.string y] _ (by rfl)) (strE_one _) (by omega) (by decide) (by simp; omega) ?_
        intro A3 c3 w9 ho9 hg9 hb9
        have HM9 := Lib.hid ((HM.out.drew.alloc (.cells #[.string y] 9)).grown hg9 (fun k hk => by have := (HO8.out.blk hk).1; omega))
        have HR9 := Lib.hid (strs_grown ((HR.out.up (below_drewN (Below.refl _ _) 1)).alloc (.cells #[.string y] 9)) hg9 (fun e => by have := (HO8.out.blk e.symm).1; omega))
        have d5 := HM9.out.1.cell 2; have e5 := HM9.out.1.frozen 2
        simp only [List.getElem?_cons_zero, List.getElem?_cons_succ] at d5
        (try (refine hK _ _ ?_; clear hK K))
        (try simp only [Act.put, List.setIfInBounds_toArray, List.set_cons_zero, List.set_cons_succ])
        refine wpAny_ready (rs := [8]) (by kernel_rfl) (by simp) ?_
        refine AllReady.cons (o := _) rfl (fun K hK => ?_) (AllReady.nil)
        go_simp
        (try (refine hK _ _ ?_; clear hK K))
        (try simp only [Act.put, List.setIfInBounds_toArray, List.set_cons_zero, List.set_cons_succ])
        refine wpAny_ready (rs := [9]) (by kernel_rfl) (by simp) ?_
        refine AllReady.cons (o := _) rfl (fun K hK => ?_) (AllReady.nil)
        go_simp
        (try (refine hK _ _ ?_; clear hK K))
        (try simp only [Act.put, List.setIfInBounds_toArray, List.set_cons_zero, List.set_cons_succ])
        refine wpAny_done (by kernel_rfl) ?_ _
        (try simp only [Act.put, List.setIfInBounds_toArray, List.set_cons_zero, List.set_cons_succ])
        have HZ9 := Lib.hid (good_snoc HZ.out gy)
        have HMF := Lib.hid (HM9.out.put (v' := .slice A3 (m + 1 + q + 1) c3))
        have HOF := Lib.hid (own_put (b := w3.heap.size) (v' := .slice A3 (m + 1 + q + 1) c3) ho9 (by omega))
        have HRF := Lib.hid (strs_grown HR9.out (only_set w9 (p := ⟨w3.heap.size, 2, none⟩) (.slice A3 (m + 1 + q + 1) c3)) (fun e => by injection e with e; dsimp only at e; omega))
        have hs12 : wb ≤ (w9.setCell ⟨w3.heap.size, 2, none⟩ (.slice A3 (m + 1 + q + 1) c3)).heap.size := by have := hg9.size; simp at this ⊢; omega
        clear d2 d4 d5 e2 e5
        go_wp2
        go_roundw
        case rel => exact ⟨k, q + 1, A3, c3, L ++ [y], by omega, by go_num, HMF, HOF, HZ9, HRF, hs12⟩
        case measure => simp [intOf] <;> omega
       ·go_simp
        (try (refine hK _ _ ?_; clear hK K))
        (try simp only [Act.put, List.setIfInBounds_toArray, List.set_cons_zero, List.set_cons_succ])
        refine wpAny_ready (rs := [1, 6]) (by kernel_rfl) (by simp) ?_
        refine AllReady.cons (o := _) rfl (fun K hK => ?_) (AllReady.cons (o := _) rfl (fun K hK => ?_) (AllReady.nil))
        ·go_simp
         (try (refine hK _ _ ?_; clear hK K))
         (try simp only [Act.put, List.setIfInBounds_toArray, List.set_cons_zero, List.set_cons_succ])
         refine wpAny_ready (rs := [6]) (by kernel_rfl) (by simp) ?_
         refine AllReady.cons (o := _) rfl (fun K hK => ?_) (AllReady.nil)
         go_simp
         (try (refine hK _ _ ?_; clear hK K))
         (try simp only [Act.put, List.setIfInBounds_toArray, List.set_cons_zero, List.set_cons_succ])
         refine wpAny_ready (rs := [7]) (by kernel_rfl) (by simp) ?_
         refine AllReady.cons (o := _) rfl (fun K hK => ?_) (AllReady.nil)
         refine step_append_rec Tryz.elStr (by rfl) _ _ (by rfl) (by rfl) (HO8.out.alloc _) y (by rfl) (Box.at_ _ [.string y] _ (by rfl)) (strE_one _) (by omega) (by decide) (by simp; omega) ?_
         intro A3 c3 w9 ho9 hg9 hb9
         have HM9 := Lib.hid ((HM.out.drew.alloc (.cells #[.string y] 9)).grown hg9 (fun k hk => by have := (HO8.out.blk hk).1; omega))
         have HR9 := Lib.hid (strs_grown ((HR.out.up (below_drewN (Below.refl _ _) 1)).alloc (.cells #[.string y] 9)) hg9 (fun e => by have := (HO8.out.blk e.symm).1; omega))
         have d5 := HM9.out.1.cell 2; have e5 := HM9.out.1.frozen 2
         simp only [List.getElem?_cons_zero, List.getElem?_cons_succ] at d5
         (try (refine hK _ _ ?_; clear hK K))
         (try simp only [Act.put, List.setIfInBounds_toArray, List.set_cons_zero, List.set_cons_succ])
         refine wpAny_ready (rs := [8]) (by kernel_rfl) (by simp) ?_
         refine AllReady.cons (o := _) rfl (fun K hK => ?_) (AllReady.nil)
         go_simp
         (try (refine hK _ _ ?_; clear hK K))
         (try simp only [Act.put, List.setIfInBounds_toArray, List.set_cons_zero, List.set_cons_succ])
         refine wpAny_ready (rs := [9]) (by kernel_rfl) (by simp) ?_
         refine AllReady.cons (o := _) rfl (fun K hK => ?_) (AllReady.nil)
         go_simp
         (try (refine hK _ _ ?_; clear hK K))
         (try simp only [Act.put, List.setIfInBounds_toArray, List.set_cons_zero, List.set_cons_succ])
         refine wpAny_done (by kernel_rfl) ?_ _
         (try simp only [Act.put, List.setIfInBounds_toArray, List.set_cons_zero, List.set_cons_succ])
         have HZ9 := Lib.hid (good_snoc HZ.out gy)
         have HMF := Lib.hid (HM9.out.put (v' := .slice A3 (m + 1 + q + 1) c3))
         have HOF := Lib.hid (own_put (b := w3.heap.size) (v' := .slice A3 (m + 1 + q + 1) c3) ho9 (by omega))
         have HRF := Lib.hid (strs_grown HR9.out (only_set w9 (p := ⟨w3.heap.size, 2, none⟩) (.slice A3 (m + 1 + q + 1) c3)) (fun e => by injection e with e; dsimp only at e; omega))
         have hs12 : wb ≤ (w9.setCell ⟨w3.heap.size, 2, none⟩ (.slice A3 (m + 1 + q + 1) c3)).heap.size := by have := hg9.size; simp at this ⊢; omega
         clear d2 d4 d5 e2 e5
         go_wp2
         go_roundw
         case rel => exact ⟨k, q + 1, A3, c3, L ++ [y], by omega, by go_num, HMF, HOF, HZ9, HRF, hs12⟩
         case measure => simp [intOf] <;> omega
        ·go_simp
         (try (refine hK _ _ ?_; clear hK K))
         (try simp only [Act.put, List.setIfInBounds_toArray, List.set_cons_zero, List.set_cons_succ])
         refine wpAny_ready (rs := [1]) (by kernel_rfl) (by simp) ?_
         refine AllReady.cons (o := _) rfl (fun K hK => ?_) (AllReady.nil)
         go_simp
         (try (refine hK _ _ ?_; clear hK K))
         (try simp only [Act.put, List.setIfInBounds_toArray, List.set_cons_zero, List.set_cons_succ])
         refine wpAny_ready (rs := [7]) (by kernel_rfl) (by simp) ?_
         refine AllReady.cons (o := _) rfl (fun K hK => ?_) (AllReady.nil)
         refine step_append_rec Tryz.elStr (by rfl) _ _ (by rfl) (by rfl) (HO8.out.alloc _) y (by rfl) (Box.at_ _ [.string y] _ (by rfl)) (strE_one _) (by omega) (by decide) (by simp; omega) ?_
         intro A3 c3 w9 ho9 hg9 hb9
         have HM9 := Lib.hid ((HM.out.drew.alloc (.cells #[.string y] 9)).grown hg9 (fun k hk => by have := (HO8.out.blk hk).1; omega))
         have HR9 := Lib.hid (strs_grown ((HR.out.up (below_drewN (Below.refl _ _) 1)).alloc (.cells #[.string y] 9)) hg9 (fun e => by have := (HO8.out.blk e.symm).1; omega))
         have d5 := HM9.out.1.cell 2; have e5 := HM9.out.1.frozen 2
         simp only [List.getElem?_cons_zero, List.getElem?_cons_succ] at d5
         (try (refine hK _ _ ?_; clear hK K))
         (try simp only [Act.put, List.setIfInBounds_toArray, List.set_cons_zero, List.set_cons_succ])
         refine wpAny_ready (rs := [8]) (by kernel_rfl) (by simp) ?_
         refine AllReady.cons (o := _) rfl (fun K hK => ?_) (AllReady.nil)
         go_simp
         (try (refine hK _ _ ?_; clear hK K))
         (try simp only [Act.put, List.setIfInBounds_toArray, List.set_cons_zero, List.set_cons_succ])
         refine wpAny_ready (rs := [9]) (by kernel_rfl) (by simp) ?_
         refine AllReady.cons (o := _) rfl (fun K hK => ?_) (AllReady.nil)
         go_simp
         (try (refine hK _ _ ?_; clear hK K))
         (try simp only [Act.put, List.setIfInBounds_toArray, List.set_cons_zero, List.set_cons_succ])
         refine wpAny_done (by kernel_rfl) ?_ _
         (try simp only [Act.put, List.setIfInBounds_toArray, List.set_cons_zero, List.set_cons_succ])
         have HZ9 := Lib.hid (good_snoc HZ.out gy)
         have HMF := Lib.hid (HM9.out.put (v' := .slice A3 (m + 1 + q + 1) c3))
         have HOF := Lib.hid (own_put (b := w3.heap.size) (v' := .slice A3 (m + 1 + q + 1) c3) ho9 (by omega))
         have HRF := Lib.hid (strs_grown HR9.out (only_set w9 (p := ⟨w3.heap.size, 2, none⟩) (.slice A3 (m + 1 + q + 1) c3)) (fun e => by injection e with e; dsimp only at e; omega))
         have hs12 : wb ≤ (w9.setCell ⟨w3.heap.size, 2, none⟩ (.slice A3 (m + 1 + q + 1) c3)).heap.size := by have := hg9.size; simp at this ⊢; omega
         clear d2 d4 d5 e2 e5
         go_wp2
         go_roundw
         case rel => exact ⟨k, q + 1, A3, c3, L ++ [y], by omega, by go_num, HMF, HOF, HZ9, HRF, hs12⟩
         case measure => simp [intOf] <;> omega
end Go.Proofs.YtidolgonmimicaaGreat
namespace Go.Proofs.YtidolgonmimicaaGreat
open Go.ChangeShapes Go.WideShapes Go.ChangeAt Go.RowKit Go.Deep
theorem flatMap_pre {α : Type} {e : α → List Value} {s : Nat} (he : ∀ x, (e x).length = s) : ∀ (l : List α) (m : Nat), (l.flatMap e).take (m * s) = (l.take m).flatMap e
 | [], m => by simp
 | y :: l, 0 => by simp
 | y :: l, m + 1 => by
  rw [List.take_succ_cons, List.flatMap_cons, List.flatMap_cons, List.take_append, he, Nat.succ_mul, show m * s + s - s = m * s by omega, flatMap_pre he l m, List.take_of_length_le (by rw [he]; omega)]
theorem Owned.pre {α : Type} {e : α → List Value} {s : Nat} {E : TypeId} {w : World} {base n c m : Nat} {A : Option Addr} {l : List α} (h : Owned e s E w base A n c l) (hm : m ≤ n) : Owned e s E w base A m c (l.take m) := by
 refine ⟨h.1, by rw [List.length_take, h.2.1]; omega, by rw [flatMap_len h.1, List.length_take, h.2.1, Nat.min_eq_left hm], ?_⟩
 rcases h.2.2.2 with ⟨h1, h2⟩ | ⟨g, cap, cur, hv, hb, hh, hnc, hcm, hsz, ht⟩
 ·injection h1 with e1 e2 e3
  subst e1 e3
  obtain rfl : m = 0 := by omega
  exact .inl ⟨rfl, rfl⟩
 ·injection hv with e1 e2 e3
  subst e1 e3
  refine .inr ⟨g, c, cur, rfl, hb, hh, by omega, hcm, hsz, ?_⟩
  rw [← flatMap_pre h.1 l m, ← ht, List.take_take, Nat.min_eq_left (Nat.mul_le_mul_right _ hm)]
def digS (s : ByteArray) : Prop := s.size ≤ 8 ∧ ∀ k, k < s.size → 48 ≤ PlainAid.bt s k ∧ PlainAid.bt s k ≤ 57
set_option maxRecDepth 100000 in
theorem cur_row {A : Option Addr} {n c a p N : Nat} {w0 w : World} (hS : Src w0 A n) (hb : Below w0.heap.size w0 w) (hp : w0.heap.size ≤ p) (hc : Cur w p A n c a) (ha : a ≤ 10000000) (h3 : 3 ≤ N) (h8 : N ≤ 8) :
  Calls Tryz.prog 94 #[.pointer (some ⟨p, 0, none⟩), .int .i64 N] w fun e w' => ∃ r, e = .returned (.string r) ∧ RowN N r ∧ Cur w' p A n c (a + 2) ∧ w.grownBy w' (some p) := by
 have hf := fact_le8 h8
 have hfp := fact_pos N
 go_in
 go_wp2_with (go_at_call 185; refine (spec_l1Fact h8).mono ?_; rintro e w' ⟨rfl, rfl⟩)
 refine (cur_pickL hS hb hp hc ha (by omega) (by omega)).mono ?_; rintro e w1 ⟨x, rfl, ⟨x0, x1⟩, hc1, hg1⟩
 obtain ⟨X, rfl⟩ := Int.eq_ofNat_of_zero_le x0
 have hX : X < fact N := by omega
 clear x0 x1
 go_wp2_with fail
 refine (spec_RowOf h3 h8 hX).mono ?_; rintro e w2 ⟨r, rfl, hr, hb2⟩
 go_wp2
 go_ret
 exact ⟨r, rfl, hr, hc1.up hb2, grownBy_trans hg1 (grown_any hb2 _)⟩
end Go.Proofs.YtidolgonmimicaaGreat
