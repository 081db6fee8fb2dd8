/- Texts 2 of 4 that the claim leans on: plain laws and the walks' contracts, in order. -/
import Derived.Test.YtmdmnjjlpefigaaGreatMExactRingTouchOf1
import Derived.BigRegion
import Derived.PlainAid
import Derived.Deep.AppendLies
import Derived.StillTailTactics
import Derived.Maps.AppendAt
import Derived.Maps.OwnSet
import Derived.Maps.Views
import Derived.WideKeyPair
import Derived.DeepKeys4
import Derived.Shelf.Spec.SearchS
import Derived.Ground.Names2Prog
import Derived.Test.YtmdmnjjlpefigaaGreatProg
import Derived.Shelf.Sort.Plain
import Derived.Sort.OwnSorted
/- The walks through changes, the program's side. -/
namespace Go.Proofs.YtmdmnjjlpefigaaGreat
set_option linter.unusedVariables false
set_option linter.unusedSimpArgs false
open Go.ChangeShapes Go.WideShapes Go.ChangeAt Go.RowKit Go.Deep
set_option maxRecDepth 100000 in
theorem impl_places {c : ByteArray} {w : World} (hz : c.size ≤ 16777216) :
    Calls Tryz.prog 69 #[.string c] w fun e w' => ∃ A' c', e = .returned (.tuple #[.slice A' (plR c).length c', .bool (validD c)]) ∧
      Owned intE 1 3 w' w.heap.size A' (plR c).length c' (plR c) ∧ Below w.heap.size w w' := by
  have hb := PlainAid.get_bt c
  go_in
  go_wp2
  go_loopw [4, 9] (fun v i wr => ∃ (k : Nat) (A' : Option Addr) (m c' : Nat), k ≤ c.size ∧ i = .int .i64 k ∧ v = .slice A' m c' ∧ m = k ∧ Hid (∀ j, j < k → inB (dg c j) 1 8 = true) ∧ Owned intE 1 3 wr w.heap.size A' m c' ((digs c).take k) ∧ Below w.heap.size w wr) (fun _ i _ => c.size - (intOf i).toNat)
  case atStart => exact ⟨0, _, _, _, Nat.zero_le _, rfl, rfl, rfl, Lib.hid (fun j hj => absurd hj (by omega)), Owned.empty intE_len _ _ (by simp), by (repeat' (first | (with_reducible exact Below.refl _ _) | (with_reducible assumption) | (with_reducible refine below_drewN ?_ _) | (with_reducible refine Below.drew ?_) | (with_reducible refine below_alloc ?_ _) | (with_reducible refine Below.alloc ?_ ?_ _) | (with_reducible refine Below.setCell ?_ ?_ _) | (with_reducible refine below_go ?_ (by with_reducible assumption)) | (with_reducible refine below_then (by with_reducible assumption) ?_ ?_) | go_size))⟩
  case round =>
    obtain ⟨k, A', m, c', hk, rfl, rfl, rfl, HK, ho, hbl⟩ := hrel
    have HO := Lib.hid ho
    have hsz := hbl.size
    clear ho
    by_cases hlt : m < c.size
    · have HT := Lib.hid (digs_take hlt)
      have hn0 := PlainAid.bt_nonneg c m
      have hn1 := PlainAid.bt_le c m
      by_cases h1 : PlainAid.bt c m < 49
      · have e0 := Lib.hid (valid_bad hlt (dg_low h1))
        go_wp2
        go_ret2
        rw [plR_f e0.out, e0.out]
        exact ⟨none, 0, rfl, Owned.nil intE_len _ _ _, hbl⟩
      by_cases h2 : 56 < PlainAid.bt c m
      · have e0 := Lib.hid (valid_bad hlt (dg_high h2))
        go_wp2
        go_ret2
        rw [plR_f e0.out, e0.out]
        exact ⟨none, 0, rfl, Owned.nil intE_len _ _ _, hbl⟩
      have hw2 := wrap_dg c m
      have e1 := Lib.hid (dg_mid h1 h2)
      have hdg : PlainAid.bt c m - 48 = dg c m := rfl
      go_wp2_with (first | (at_builtin; go_must ((refine wpList_append_rec Tryz.elInt rfl (.tmp 22) (.tmp 28) rfl rfl (HO.out.alloc _) (dg c m) rfl (Box.at_ _ [.int .i64 (dg c m)] _ ?_) (intE_one _) ?_ (by decide) ?_ ?_; (focus (first | omega | (simp only [World.size_alloc]; done) | (simp only [World.size_alloc]; omega) | (simp; done) | (simp; omega))); (focus (first | omega | (simp only [World.size_alloc]; done) | (simp only [World.size_alloc]; omega) | (simp; done) | (simp; omega))); (focus (first | omega | (simp only [World.size_alloc]; done) | (simp only [World.size_alloc]; omega) | (simp; done) | (simp; omega))); intro A2 c2 w2 ho2 hg2 hb2))))
      go_roundw
      case rel =>
        exact ⟨m + 1, A2, m + 1, c2, by omega, by go_num, by go_num, rfl, Lib.hid (fun j hj => by rcases Nat.lt_succ_iff_lt_or_eq.1 hj with h | rfl; exact HK.out j h; exact e1.out), by rw [HT.out]; exact ho2, (hbl.alloc hsz _).trans hb2⟩
      case measure => simp [intOf]; omega
    · obtain rfl : m = c.size := by omega
      have e0 := Lib.hid (valid_good (fun j hj => HK.out j hj))
      have e1 := Lib.hid (show plR c = (digs c).take c.size by rw [plR_t e0.out, List.take_of_length_le (by rw [digs_len]; omega)])
      have hl := HO.out.len
      rw [← e1.out] at hl
      go_wp2
      go_ret2
      rw [e0.out, hl]
      refine ⟨_, _, rfl, ?_, hbl⟩
      rw [e1.out]; exact HO.out
theorem arePl_0 {n : Int} {l : List Int} (h : ¬ 0 < l.length) : arePl n l = false := by simp [arePl, h]
theorem arePl_n {n : Int} {l : List Int} (h : ((l.length : Int) == n) = true) : arePl n l = false := by simp [arePl, h]
theorem arePl_first {n x : Int} {l : List Int} (hx : l[0]? = some x) (h : (x % 2 == 0) = true) : arePl n l = false := by simp [arePl, List.getD, hx, h]
theorem arePl_par {n y : Int} {l : List Int} (hy : l[l.length - 1]? = some y) (h : (y % 2 == n % 2) = false) : arePl n l = false := by simp [arePl, List.getD, hy, h]
theorem arePl_big {n y : Int} {l : List Int} (hy : l[l.length - 1]? = some y) (h : n < y) : arePl n l = false := by
  have : decide (y ≤ n) = false := by simp; omega
  simp [arePl, List.getD, hy, this]
theorem arePl_adj {n x y : Int} {l : List Int} (h0 : 0 < l.length) (hn : ((l.length : Int) == n) = false) (hx : l[0]? = some x) (hx1 : (x % 2 == 0) = false) (hy : l[l.length - 1]? = some y) (hy1 : (y % 2 == n % 2) = true) (hy2 : ¬ n < y) :
    arePl n l = adj x (l.drop 1) := by
  have : decide (y ≤ n) = true := by simp; omega
  simp only [arePl, List.getD, hx, hy, Option.getD_some, h0, hn, hx1, hy1, this, decide_true, Bool.not_false, Bool.true_and]
set_option maxRecDepth 100000 in
theorem impl_arePlaces {A : Option Addr} {N c : Nat} {l : List Int} {n : Int} {w : World} (hN : l.length = N) (h : Ints w A l) (hz : N ≤ 16777216) (hn : 3 ≤ n ∧ n ≤ 8) (ha : ∀ x ∈ l, 1 ≤ x ∧ x ≤ 8) :
    Calls Tryz.prog 70 #[.int .i64 n, .slice A N c] w fun e w' => e = .returned (.bool (arePl n l)) ∧ Below w.heap.size w w' := by
  subst hN
  by_cases h0 : 0 < l.length
  · obtain ⟨b, o, x, rfl, hbb, hx, hc⟩ := h.at_int h0
    obtain ⟨b', o', y, hA, hbb', hy, hc'⟩ := h.at_int (k := l.length - 1) (by omega)
    injection hA with hA
    injection hA with e1 e2
    subst e1 e2
    have hx8 := ha x (List.mem_of_getElem? hx)
    have hy8 := ha y (List.mem_of_getElem? hy)
    simp only [Nat.add_zero] at hc
    have hz0 : ((l.length : Int) == 0) = false := beq_eq_false_iff_ne.2 (by omega)
    have hpred : ((l.length : Int) - 1) = ((l.length - 1 : Nat) : Int) := by omega
    rcases h1 : ((l.length : Int) == n)
    · rcases h2 : (x % 2 == 0)
      · rcases h3 : (y % 2 == n % 2)
        · have e0 := Lib.hid (arePl_par (n := n) hy h3)
          have h3' : (y % 2 != n % 2) = true := by rw [bne, h3]; rfl
          clear hx hy h
          go_in
          go_wp2
          go_ret
          exact ⟨ret_bool e0.out.symm, Below.refl _ _⟩
        · have h3' : (y % 2 != n % 2) = false := by rw [bne, h3]; rfl
          by_cases h4 : n < y
          · have e0 := Lib.hid (arePl_big (n := n) hy h4)
            clear hx hy h
            go_in
            go_wp2
            go_ret
            exact ⟨ret_bool e0.out.symm, Below.refl _ _⟩
          · have e0 := Lib.hid (arePl_adj h0 h1 hx h2 hy h3 h4)
            have HX := Lib.hid hx
            clear hx hy
            go_in
            go_wp2
            go_loopw [5] (fun i wr => ∃ (k : Nat) (q : Int), 0 < k ∧ k ≤ l.length ∧ i = .int .i64 k ∧ Hid (l[k - 1]? = some q ∧ arePl n l = adj q (l.drop k)) ∧ Below w.heap.size w wr) (fun i _ => l.length - (intOf i).toNat)
            case atStart => exact ⟨1, x, by omega, by omega, rfl, Lib.hid ⟨HX.out, e0.out⟩, Below.refl _ _⟩
            case round =>
              obtain ⟨k, q, hk0, hk, rfl, HK, hb⟩ := hrel
              by_cases hlt : k < l.length
              · obtain ⟨b3, o3, y3, hA3, hbb3, hy3, hc3⟩ := (h.below hb (Nat.le_refl _)).at_int hlt
                obtain ⟨b4, o4, y4, hA4, hbb4, hy4, hc4⟩ := (h.below hb (Nat.le_refl _)).at_int (k := k - 1) (by omega)
                injection hA3 with hA3
                injection hA3 with e3 e4
                injection hA4 with hA4
                injection hA4 with e5 e6
                subst e3 e4 e5 e6
                rw [HK.out.1] at hy4
                injection hy4 with hy4
                subst hy4
                have HD := Lib.hid (show l.drop k = y3 :: l.drop (k + 1) by rw [List.drop_eq_getElem_cons hlt]; congr 1; rw [List.getElem?_eq_getElem hlt] at hy3; injection hy3)
                have HY := Lib.hid hy3
                have hq8 := ha q (List.mem_of_getElem? HK.out.1)
                have hy38 := ha y3 (List.mem_of_getElem? hy3)
                clear hy3 hpred hz0 h1 h2 h3 h3' h4 hx8 hy8 hc hc' h
                have hwk : IntKind.i64.wrap ((k : Int) - 1) = ((k - 1 : Nat) : Int) := by
                  rw [PlainAid.i64_is]; unfold wrap64; omega
                have hlt1 : k - 1 < l.length := by omega
                by_cases h5 : q < y3
                · have hmod : (IntKind.i64.wrap (y3 - q)).tmod 2 = (y3 - q) % 2 := by
                    rw [PlainAid.i64_is, show wrap64 (y3 - q) = y3 - q by unfold wrap64; omega]
                    exact Int.tmod_eq_emod_of_nonneg (by omega)
                  rcases h6 : ((y3 - q) % 2 == 0)
                  · have e1 := Lib.hid (show arePl n l = adj y3 (l.drop (k + 1)) by rw [HK.out.2, HD.out, adj, h6, decide_eq_true h5]; rfl)
                    go_wp2
                    go_quiet (fail)
                    go_wp2
                    go_roundw
                    case rel => exact ⟨k + 1, y3, by omega, by omega, by go_num, Lib.hid ⟨by rw [Nat.add_sub_cancel]; exact HY.out, e1.out⟩, by (repeat' (first | (with_reducible exact Below.refl _ _) | (with_reducible assumption) | (with_reducible refine below_drewN ?_ _) | (with_reducible refine Below.drew ?_) | (with_reducible refine below_alloc ?_ _) | (with_reducible refine Below.alloc ?_ ?_ _) | (with_reducible refine Below.setCell ?_ ?_ _) | (with_reducible refine below_go ?_ (by with_reducible assumption)) | (with_reducible refine below_then (by with_reducible assumption) ?_ ?_) | go_size))⟩
                    case measure => simp [intOf]; omega
                  · have e1 := Lib.hid (show arePl n l = false by rw [HK.out.2, HD.out, adj, h6, decide_eq_true h5]; rfl)
                    go_wp2
                    go_quiet (fail)
                    go_wp2
                    go_ret
                    exact ⟨ret_bool e1.out.symm, by (repeat' (first | (with_reducible exact Below.refl _ _) | (with_reducible assumption) | (with_reducible refine below_drewN ?_ _) | (with_reducible refine Below.drew ?_) | (with_reducible refine below_alloc ?_ _) | (with_reducible refine Below.alloc ?_ ?_ _) | (with_reducible refine Below.setCell ?_ ?_ _) | (with_reducible refine below_go ?_ (by with_reducible assumption)) | (with_reducible refine below_then (by with_reducible assumption) ?_ ?_) | go_size))⟩
                · have e1 := Lib.hid (show arePl n l = false by rw [HK.out.2, HD.out, adj, decide_eq_false h5]; rfl)
                  go_wp2
                  go_quiet (fail)
                  go_wp2
                  go_ret
                  exact ⟨ret_bool e1.out.symm, by (repeat' (first | (with_reducible exact Below.refl _ _) | (with_reducible assumption) | (with_reducible refine below_drewN ?_ _) | (with_reducible refine Below.drew ?_) | (with_reducible refine below_alloc ?_ _) | (with_reducible refine Below.alloc ?_ ?_ _) | (with_reducible refine Below.setCell ?_ ?_ _) | (with_reducible refine below_go ?_ (by with_reducible assumption)) | (with_reducible refine below_then (by with_reducible assumption) ?_ ?_) | go_size))⟩
              · obtain rfl : k = l.length := by omega
                have e1 := Lib.hid (show arePl n l = true by rw [HK.out.2, List.drop_eq_nil_of_le (Nat.le_refl _)]; rfl)
                go_wp2
                go_ret
                exact ⟨ret_bool e1.out.symm, hb⟩
      · have e0 := Lib.hid (arePl_first (n := n) hx h2)
        clear hx hy h
        go_in
        go_wp2
        go_ret
        exact ⟨ret_bool e0.out.symm, Below.refl _ _⟩
    · have e0 := Lib.hid (arePl_n h1)
      clear hx hy h
      go_in
      go_wp2
      go_ret
      exact ⟨ret_bool e0.out.symm, Below.refl _ _⟩
  · have e0 := Lib.hid (arePl_0 (n := n) h0)
    have h1 : l.length = 0 := by omega
    rw [h1]
    clear h h0 h1
    go_in
    go_wp2
    go_ret
    exact ⟨ret_bool e0.out.symm, Below.refl _ _⟩
set_option maxRecDepth 100000 in
theorem impl_GoodChange {c : ByteArray} {n : Int} {w : World} (hz : c.size ≤ 16777216) :
    Calls Tryz.prog 50 #[.int .i64 n, .string c] w fun e w' => e = .returned (.bool (goodChange n c)) ∧ Below w.heap.size w w' := by
  rcases h1 : inB n 3 8
  · have e0 := Lib.hid (goodChange_stage (c := c) h1)
    go_in
    go_wp2_with (first | (go_at_call 68; refine (impl_isStage _ _).mono ?_; rintro e w' ⟨rfl, rfl⟩))
    go_ret
    exact ⟨ret_bool e0.out.symm, Below.refl _ _⟩
  have hn3 := inB_t h1
  rcases h6 : isDash c
  · have e0 := Lib.hid (good_impl hn3 h6)
    have h7 : (c.toList == [45]) = false := h6
    rcases hv : validD c
    · have e1 := Lib.hid (show goodChange n c = false by rw [e0.out, hv]; rfl)
      go_in
      go_wp2_with (first | (go_at_call 68; refine (impl_isStage _ _).mono ?_; rintro e w' ⟨rfl, rfl⟩) | (go_at_call 69; refine (impl_places hz).mono ?_; rintro e w1 ⟨A1, c1, rfl, ho1, hb1⟩; have hz1 : (plR c).length ≤ 16777216 := by (rw [plR_f hv]; decide)))
      go_ret
      exact ⟨ret_bool e1.out.symm, hb1⟩
    · have hva := valid_at hv
      have hpl := plR_t hv
      have hz1 : (plR c).length ≤ 16777216 := by rw [hpl, digs_len]; exact hz
      rw [← hpl] at hva
      have e1 := Lib.hid (show goodChange n c = arePl n (plR c) by rw [e0.out, hv, hpl]; rfl)
      clear hpl
      go_in
      go_wp2_with (first | (go_at_call 68; refine (impl_isStage _ _).mono ?_; rintro e w' ⟨rfl, rfl⟩) | (go_at_call 69; refine (impl_places hz).mono ?_; rintro e w1 ⟨A1, c1, rfl, ho1, hb1⟩) | (go_at_call 70; refine (impl_arePlaces rfl ho1.recs hz1 hn3 hva).mono ?_; rintro e w2 ⟨rfl, hb2⟩))
      go_ret
      exact ⟨ret_bool e1.out.symm, below_go hb1 hb2⟩
  · have e0 := Lib.hid (goodChange_dash h1 (dash_size hn3.1 h6) h6)
    have h7 : (c.toList == [45]) = true := h6
    go_in
    go_wp2_with (first | (go_at_call 68; refine (impl_isStage _ _).mono ?_; rintro e w' ⟨rfl, rfl⟩))
    go_ret
    exact ⟨ret_bool e0.out.symm, Below.refl _ _⟩
end Go.Proofs.YtmdmnjjlpefigaaGreat
/- The swaps of a change, the program's side; ChangeSign on both sides. -/
namespace Go.Proofs.YtmdmnjjlpefigaaGreat
set_option linter.unusedVariables false
set_option linter.unusedSimpArgs false
open Go.ChangeShapes Go.WideShapes Go.ChangeAt Go.RowKit Go.Deep
theorem impl_placesOf {c : ByteArray} {w : World} (hz : c.size ≤ 16777216) (hg : isDash c = true ∨ validD c = true) :
    Calls Tryz.prog 101 #[.string c] w fun e w' => ∃ A' c', e = .returned (.slice A' (plsOf c).length c') ∧
      Owned intE 1 3 w' w.heap.size A' (plsOf c).length c' (plsOf c) ∧ Below w.heap.size w w' := by
  rcases h6 : isDash c
  · have h7 : (c.toList == [45]) = false := h6
    have hv : validD c = true := by rcases hg with h | h; rw [h6] at h; cases h; exact h
    have e0 := Lib.hid (plsOf_digs h6)
    have e1 := Lib.hid (plR_t hv)
    go_in
    go_wp2_with (first | (go_at_call 69; refine (impl_places hz).mono ?_; rintro e w1 ⟨A1, c1, rfl, ho1, hb1⟩))
    go_ret
    rw [e0.out, ← e1.out]
    exact ⟨_, _, rfl, ho1, hb1⟩
  · have h7 : (c.toList == [45]) = true := h6
    have e0 := Lib.hid (plsOf_dash h6)
    go_in
    go_wp2
    go_ret
    rw [e0.out]
    exact ⟨_, _, rfl, Owned.empty intE_len _ _ (by simp), by (repeat' (first | (with_reducible exact Below.refl _ _) | (with_reducible assumption) | (with_reducible refine below_drewN ?_ _) | (with_reducible refine Below.drew ?_) | (with_reducible refine below_alloc ?_ _) | (with_reducible refine Below.alloc ?_ ?_ _) | (with_reducible refine Below.setCell ?_ ?_ _) | (with_reducible refine below_go ?_ (by with_reducible assumption)) | (with_reducible refine below_then (by with_reducible assumption) ?_ ?_) | go_size))⟩
def hasI (l : List Int) (p : Int) : Bool := l.contains p
theorem slices_IndexInt {A : Option Addr} {N c : Nat} {l : List Int} {p : Int} {w : World} (hN : l.length = N) (h : Ints w A l) (hz : N ≤ 16777216) :
    Calls Tryz.prog 103 #[.slice A N c, .int .i64 p] w fun e w' => ∃ r : Int, e = .returned (.int .i64 r) ∧ decide (0 ≤ r) = hasI l p ∧ w = w' := by
  subst hN
  go_in
  go_wp2
  go_loopw [8] (fun i wr => ∃ k : Nat, k ≤ l.length ∧ i = .int .i64 k ∧ Hid (hasI l p = (l.drop k).contains p) ∧ w = wr) (fun i _ => l.length - (intOf i).toNat)
  case atStart => exact ⟨0, Nat.zero_le _, rfl, Lib.hid rfl, rfl⟩
  case round =>
    obtain ⟨k, hk, rfl, HK, rfl⟩ := hrel
    by_cases hlt : k < l.length
    · obtain ⟨b3, o3, y3, rfl, hbb3, hy3, hc3⟩ := h.at_int hlt
      have HD := Lib.hid (show l.drop k = y3 :: l.drop (k + 1) by rw [List.drop_eq_getElem_cons hlt]; congr 1; rw [List.getElem?_eq_getElem hlt] at hy3; injection hy3)
      clear hy3
      rcases he : (p == y3)
      · have e1 := Lib.hid (show hasI l p = (l.drop (k + 1)).contains p by rw [HK.out, HD.out, List.contains_cons, he]; rfl)
        go_wp2
        go_roundw
        case rel => exact ⟨k + 1, by omega, by go_num, e1, trivial⟩
        case measure => simp [intOf]; omega
      · have e1 := Lib.hid (show hasI l p = true by rw [HK.out, HD.out, List.contains_cons, he]; rfl)
        go_wp2
        go_ret
        exact ⟨(k : Int), rfl, by rw [e1.out]; simp, rfl⟩
    · have e1 := Lib.hid (show hasI l p = false by rw [HK.out, List.drop_eq_nil_of_le (by omega)]; rfl)
      go_wp2
      go_ret
      exact ⟨-1, rfl, by rw [e1.out]; rfl, rfl⟩
theorem slices_ContainsInt {A : Option Addr} {N c : Nat} {l : List Int} {p : Int} {w : World} (hN : l.length = N) (h : Ints w A l) (hz : N ≤ 16777216) :
    Calls Tryz.prog 102 #[.slice A N c, .int .i64 p] w fun e w' => e = .returned (.bool (hasI l p)) ∧ w = w' := by
  go_in
  go_wp2_with (first | (go_at_call 103; refine (slices_IndexInt hN h hz).mono ?_; rintro e w' ⟨r, rfl, hr, rfl⟩))
  go_ret
  exact ⟨ret_bool rfl, rfl⟩
set_option maxRecDepth 100000 in
theorem impl_swapsOf {c : ByteArray} {n : Nat} {w : World} (hz : c.size ≤ 16777216) (hn : n ≤ 8) (hg : isDash c = true ∨ validD c = true) :
    Calls Tryz.prog 99 #[.int .i64 n, .string c] w fun e w' => ∃ A' c', e = .returned (.slice A' (swaps n c).length c') ∧
      Owned intE 1 3 w' w.heap.size A' (swaps n c).length c' (swaps n c) ∧ Below w.heap.size w w' := by
  have hpz : (plsOf c).length ≤ 16777216 := by
    rcases h6 : isDash c
    · rw [plsOf_digs h6, digs_len]; exact hz
    · rw [plsOf_dash h6]; decide
  go_in
  go_wp2_with (first | (go_at_call 101; refine (impl_placesOf hz hg).mono ?_; rintro e w1 ⟨A1, c1, rfl, ho1, hb1⟩; have hst := ho1.recs; have hsz1 := hb1.size; clear ho1))
  go_loopw [6, 7] (fun v i wr => ∃ (k : Nat) (A' : Option Addr) (m c' : Nat) (l : List Int), k ≤ n + 1 ∧ i = .int .i64 (k + 1 : Nat) ∧ v = .slice A' m c' ∧ Hid (swaps n c = l ++ sws (stays c) n (k + 1)) ∧ m ≤ k ∧ Owned intE 1 3 wr w1.heap.size A' m c' l ∧ Below w1.heap.size w1 wr) (fun _ i _ => n + 2 - (intOf i).toNat)
  case atStart => exact ⟨0, _, _, _, [], by omega, rfl, rfl, Lib.hid rfl, by omega, Owned.empty intE_len _ _ (by simp), by (repeat' (first | (with_reducible exact Below.refl _ _) | (with_reducible assumption) | (with_reducible refine below_drewN ?_ _) | (with_reducible refine Below.drew ?_) | (with_reducible refine below_alloc ?_ _) | (with_reducible refine Below.alloc ?_ ?_ _) | (with_reducible refine Below.setCell ?_ ?_ _) | (with_reducible refine below_go ?_ (by with_reducible assumption)) | (with_reducible refine below_then (by with_reducible assumption) ?_ ?_) | go_size))⟩
  case round =>
    obtain ⟨k, A', m, c', l, hk, rfl, rfl, HK, hmk, ho, hb⟩ := hrel
    have HO := Lib.hid ho
    have hsz := hb.size
    have hS := Lib.hid (hst.below hb (Nat.le_refl _))
    clear ho hst
    by_cases hlt : k + 1 < n
    · have hpc : Hid (hasI (plsOf c) ((k : Int) + 1) = stays c ((k : Int) + 1)) := Lib.hid (pls_has (c := c) (p := (k : Int) + 1) (by omega))
      rcases hs : stays c ((k : Int) + 1)
      · have e1 := Lib.hid (sws_swap hlt hs)
        have hs2 : hasI (plsOf c) ((k : Int) + 1) = false := hpc.out.trans hs
        go_wp2_with (first | (go_at_call 102; refine (slices_ContainsInt rfl hS.out hpz).mono ?_; rintro e w' ⟨rfl, rfl⟩) | (at_builtin; go_must ((refine wpList_append_rec Tryz.elInt rfl (.tmp 20) (.tmp 22) rfl rfl (HO.out.alloc _) ((k : Int) + 1) rfl (Box.at_ _ [.int .i64 ((k : Int) + 1)] _ ?_) (intE_one _) ?_ (by decide) ?_ ?_; (focus (first | omega | (simp only [World.size_alloc]; done) | (simp only [World.size_alloc]; omega) | (simp; done) | (simp; omega))); (focus (first | omega | (simp only [World.size_alloc]; done) | (simp only [World.size_alloc]; omega) | (simp; done) | (simp; omega))); (focus (first | omega | (simp only [World.size_alloc]; done) | (simp only [World.size_alloc]; omega) | (simp; done) | (simp; omega))); intro A2 c2 w2 ho2 hg2 hb2))))
        go_roundw
        case rel => exact ⟨k + 2, A2, m + 1, c2, l ++ [((k + 1 : Nat) : Int)], by omega, by go_num, by go_num, Lib.hid (by rw [HK.out, e1.out, List.append_assoc]; rfl), by omega, ho2, (hb.alloc hsz _).trans hb2⟩
        case measure => simp [intOf]; omega
      · have e1 := Lib.hid (sws_stay hlt hs)
        have hs2 : hasI (plsOf c) ((k : Int) + 1) = true := hpc.out.trans hs
        go_wp2_with (first | (go_at_call 102; refine (slices_ContainsInt rfl hS.out hpz).mono ?_; rintro e w' ⟨rfl, rfl⟩))
        go_roundw
        case rel => exact ⟨k + 1, A', m, c', l, by omega, by go_num, rfl, Lib.hid (by rw [HK.out, e1.out]), by omega, HO.out, by (repeat' (first | (with_reducible exact Below.refl _ _) | (with_reducible assumption) | (with_reducible refine below_drewN ?_ _) | (with_reducible refine Below.drew ?_) | (with_reducible refine below_alloc ?_ _) | (with_reducible refine Below.alloc ?_ ?_ _) | (with_reducible refine Below.setCell ?_ ?_ _) | (with_reducible refine below_go ?_ (by with_reducible assumption)) | (with_reducible refine below_then (by with_reducible assumption) ?_ ?_) | go_size))⟩
        case measure => simp [intOf]; omega
    · have e1 := Lib.hid (show swaps n c = l by rw [HK.out, sws_end hlt, List.append_nil])
      have hl := HO.out.len
      go_wp2
      go_ret
      rw [e1.out, hl]
      exact ⟨_, _, rfl, HO.out.base_le hsz1, below_go hb1 hb⟩
def signR (n : Int) (c : ByteArray) : Bool := goodChange n c && evenSwaps n.toNat c
end Go.Proofs.YtmdmnjjlpefigaaGreat
/- The walks through the row of a change, the reference's side. -/
namespace Go.Proofs.YtmdmnjjlpefigaaGreat
set_option linter.unusedVariables false
set_option linter.unusedSimpArgs false
open Go.ChangeShapes Go.WideShapes Go.ChangeAt Go.RowKit Go.Deep
theorem spec_l1Rounds {n : Nat} {w : World} (hn : n ≤ 8) :
    Calls Tryz.prog 45 #[.int .i64 n] w fun e w' => e = .returned (.string (roundsS n)) ∧ w = w' := by
  go_in
  go_wp2
  go_ret
  exact ⟨rfl, rfl⟩
theorem impl_rounds {n : Nat} {w : World} (hn : n ≤ 8) :
    Calls Tryz.prog 53 #[.int .i64 n] w fun e w' => e = .returned (.string (roundsS n)) ∧ w = w' := by
  go_in
  go_wp2
  go_ret
  exact ⟨rfl, rfl⟩
set_option maxRecDepth 100000 in
theorem spec_l2Row {c : ByteArray} {n : Nat} {w : World} (hz : c.size ≤ 16777216) (hn : n ≤ 8) :
    Calls Tryz.prog 78 #[.int .i64 n, .string c] w fun e w' => e = .returned (.string (chRow n c)) ∧ Below w.heap.size w w' := by
  have hcv := run_bytes (P := Tryz.prog) (src := 9) (dst := 70) (e := 5) (roundsS n) Tryz.underlying9 Tryz.underlying70 Tryz.underlying5
  have hrs := rounds_size n (by omega)
  rw [hrs] at hcv
  have hE : Hid (chRow n c = strOfNums (rowV n (swaps n c))) := Lib.hid rfl
  go_in
  go_wp2_with (first | (go_at_call 45; refine (spec_l1Rounds hn).mono ?_; rintro e w' ⟨rfl, rfl⟩))
  have hr0 := bytesW_row w 5 (roundsS n)
  have hb0 := bytesW_below w 5 (roundsS n)
  rw [rowV_nil n (by omega)] at hr0
  clear hcv
  generalize grownCap w n 0 5 = cc
  go_loopw [6] (fun i wr => ∃ (k : Nat) (l : List Int), k ≤ n + 1 ∧ i = .int .i64 (k + 1 : Nat) ∧ Hid (swaps n c = l ++ sws (stays c) n (k + 1)) ∧ Hid (∀ x ∈ l, x + 2 ≤ ((k + 1 : Nat) : Int)) ∧ Hid (BRow wr w.heap.size (rowV n l)) ∧ Below w.heap.size w wr) (fun i _ => n + 2 - (intOf i).toNat)
  case atStart => exact ⟨0, [], by omega, rfl, Lib.hid rfl, Lib.hid (fun x hx => by cases hx), Lib.hid hr0, hb0⟩
  case round =>
    obtain ⟨k, l, hk, rfl, HK, HL, HR, hb⟩ := hrel
    by_cases hlt : k + 1 < n
    · have hI : I64 ((k : Int) + 1) := by unfold I64; omega
      rcases hs : stays c ((k : Int) + 1)
      · have e1 := Lib.hid (sws_swap hlt hs)
        have hrow := Lib.hid (rowV_step (p := k + 1) (by omega) hlt HL.out)
        have hlen := rowV_len n l
        have c1 := HR.out.2.1 k _ (List.getElem?_eq_getElem (by omega))
        have c2 := HR.out.2.1 (k + 1) _ (List.getElem?_eq_getElem (by omega))
        have f1 := HR.out.2.2 k (by omega)
        have f2 := HR.out.2.2 (k + 1) (by omega)
        have hR2 := Lib.hid ((HR.out.set (k := k) (by omega) (49 + ((k + 1 : Nat) : Int))).set (k := k + 1) (by rw [List.length_set]; omega) (48 + ((k + 1 : Nat) : Int)))
        go_wp2_with (first | (go_at_call 92; refine (spec_l2Stays hz hI).mono ?_; rintro e w' ⟨rfl, rfl⟩))
        go_roundw
        case rel => exact ⟨k + 2, l ++ [((k + 1 : Nat) : Int)], by omega, by go_num, Lib.hid (by rw [HK.out, e1.out, List.append_assoc]; rfl), Lib.hid (fun x hx => by
            rcases List.mem_append.1 hx with hx | hx
            · have := HL.out x hx; omega
            · rw [List.mem_singleton.1 hx]; omega), Lib.hid (by rw [hrow.out]; exact hR2.out), by (repeat' (first | (with_reducible exact Below.refl _ _) | (with_reducible assumption) | (with_reducible refine below_drewN ?_ _) | (with_reducible refine Below.drew ?_) | (with_reducible refine below_alloc ?_ _) | (with_reducible refine Below.alloc ?_ ?_ _) | (with_reducible refine Below.setCell ?_ ?_ _) | (with_reducible refine below_go ?_ (by with_reducible assumption)) | (with_reducible refine below_then (by with_reducible assumption) ?_ ?_) | go_size))⟩
        case measure => simp [intOf]; omega
      · have e1 := Lib.hid (sws_stay hlt hs)
        go_wp2_with (first | (go_at_call 92; refine (spec_l2Stays hz hI).mono ?_; rintro e w' ⟨rfl, rfl⟩))
        go_roundw
        case rel => exact ⟨k + 1, l, by omega, by go_num, Lib.hid (by rw [HK.out, e1.out]), Lib.hid (fun x hx => by have := HL.out x hx; omega), HR, hb⟩
        case measure => simp [intOf]; omega
    · have e1 := Lib.hid (show swaps n c = l by rw [HK.out, sws_end hlt, List.append_nil])
      have ht := HR.out.text (P := Tryz.prog) (src := 70) (e := 5) (dst := 9) n cc (rowV_len n l) Tryz.underlying70 Tryz.underlying5 Tryz.underlying9
      go_wp2
      go_ret
      rw [hE.out, e1.out]
      exact ⟨rfl, hb⟩
end Go.Proofs.YtmdmnjjlpefigaaGreat
/- The walk through the row of a change, the program's side. -/
namespace Go.Proofs.YtmdmnjjlpefigaaGreat
set_option linter.unusedVariables false
set_option linter.unusedSimpArgs false
open Go.ChangeShapes Go.WideShapes Go.ChangeAt Go.RowKit Go.Deep
set_option maxRecDepth 100000 in
theorem impl_changeRow {c : ByteArray} {n : Nat} {w : World} (hz : c.size ≤ 16777216) (hn : n ≤ 8) (hg : isDash c = true ∨ validD c = true) :
    Calls Tryz.prog 93 #[.int .i64 n, .string c] w fun e w' => e = .returned (.string (chRow n c)) ∧ Below w.heap.size w w' := by
  have hcv := run_bytes (P := Tryz.prog) (src := 9) (dst := 70) (e := 5) (roundsS n) Tryz.underlying9 Tryz.underlying70 Tryz.underlying5
  have hrs := rounds_size n (by omega)
  rw [hrs] at hcv
  have hE : Hid (chRow n c = strOfNums (rowV n (swaps n c))) := Lib.hid rfl
  have hlen8 : (swaps n c).length ≤ 8 := by
    have := sws_len (stays c) n 1
    rw [swaps]; omega
  have hin : Hid (∀ x ∈ swaps n c, ((1 : Nat) : Int) ≤ x ∧ x < n) := Lib.hid (sws_in (stays c) n 1)
  have hfar : Hid ((swaps n c).Pairwise fun x y => x + 2 ≤ y) := Lib.hid (sws_far (stays c) n 1)
  have hr0 := Lib.hid (bytesW_row w 5 (roundsS n))
  have hb0 := bytesW_below w 5 (roundsS n)
  rw [rowV_nil n (by omega)] at hr0
  have hs0 := bytesW_size w 5 (roundsS n)
  go_in
  go_wp2_with (first | (go_at_call 53; refine (impl_rounds hn).mono ?_; rintro e w' ⟨rfl, rfl⟩) | (go_at_call 99; refine (impl_swapsOf hz hn hg).mono ?_; rintro e w1 ⟨A1, c1, rfl, ho1, hb1⟩))
  clear hcv
  generalize grownCap w n 0 5 = cc
  have hr1 := Lib.hid (hr0.out.up hb1)
  have hb01 := below_go hb0 hb1
  have hs1 := hb1.size
  rw [hs0] at ho1
  have HO1 := Lib.hid ho1
  clear ho1 hr0
  generalize hsw : swaps n c = sw at *
  clear hsw
  go_loopw [15] (fun i wr => ∃ k : Nat, k ≤ sw.length ∧ i = .int .i64 k ∧ Hid (BRow wr w.heap.size (rowV n (sw.take k))) ∧ Hid (Owned intE 1 3 wr (w.heap.size + 1) A1 sw.length c1 sw) ∧ Below w.heap.size w wr) (fun i _ => sw.length - (intOf i).toNat)
  case atStart => exact ⟨0, Nat.zero_le _, rfl, hr1, HO1, hb01⟩
  case round =>
    obtain ⟨k, hk, rfl, HR, HO, hb⟩ := hrel
    by_cases hlt : k < sw.length
    · obtain ⟨b3, o3, y, rfl, hbb, hy, hcy⟩ := HO.out.recs.at_int hlt
      have hyin := hin.out y (List.mem_of_getElem? hy)
      obtain ⟨q, rfl⟩ : ∃ q : Nat, y = (q : Int) + 1 := ⟨(y - 1).toNat, by omega⟩
      have hq : q + 1 < n := by omega
      have hfr : ∀ x ∈ sw.take k, x + 2 ≤ ((q + 1 : Nat) : Int) := take_far hfar.out hy
      have hpl := rowV_plain hq hfr
      have d1 := HR.out.2.1 q _ hpl.1
      have d2 := HR.out.2.1 (q + 1) _ hpl.2
      have hlen := rowV_len n (sw.take k)
      have f1 := HR.out.2.2 q (by omega)
      have f2 := HR.out.2.2 (q + 1) (by omega)
      have htk := Lib.hid (show sw.take (k + 1) = sw.take k ++ [((q + 1 : Nat) : Int)] from take_succ_some hy)
      have hrow := Lib.hid (rowV_step (p := q + 1) (by omega) hq hfr)
      have hR2 := Lib.hid ((HR.out.set (k := q) (by omega) (49 + ((q : Int) + 1))).set (k := q + 1) (by rw [List.length_set]; omega) (49 + (q : Int)))
      have hO2 : Hid (Owned intE 1 3 ((wr.setCell ⟨w.heap.size, q, none⟩ (.int .u8 (49 + ((q : Int) + 1)))).setCell ⟨w.heap.size, q + 1, none⟩ (.int .u8 (49 + (q : Int)))) (w.heap.size + 1) (some ⟨b3, o3, none⟩) sw.length c1 sw) :=
        Lib.hid ((HO.out.past (only_set _ _) (Nat.lt_succ_self _)).past (only_set _ _) (Nat.lt_succ_self _))
      clear hpl hfr hy hyin
      go_wp2
      go_region
      all_goals go_wp2
      all_goals go_roundw
      case rel => exact ⟨k + 1, by omega, by go_num, Lib.hid (by rw [htk.out, hrow.out, show (48 + ((q + 1 : Nat) : Int)) = 49 + (q : Int) by omega]; exact hR2.out), hO2, by (repeat' (first | (with_reducible exact Below.refl _ _) | (with_reducible assumption) | (with_reducible refine below_drewN ?_ _) | (with_reducible refine Below.drew ?_) | (with_reducible refine below_alloc ?_ _) | (with_reducible refine Below.alloc ?_ ?_ _) | (with_reducible refine Below.setCell ?_ ?_ _) | (with_reducible refine below_go ?_ (by with_reducible assumption)) | (with_reducible refine below_then (by with_reducible assumption) ?_ ?_) | go_size))⟩
      case measure => simp [intOf]; omega
    · obtain rfl : k = sw.length := by omega
      have e1 := Lib.hid (show sw.take sw.length = sw from List.take_of_length_le (Nat.le_refl _))
      have ht := HR.out.text (P := Tryz.prog) (src := 70) (e := 5) (dst := 9) n cc (rowV_len n _) Tryz.underlying70 Tryz.underlying5 Tryz.underlying9
      rw [e1.out, ← hE.out] at ht
      go_wp2
      go_ret
      exact ⟨rfl, hb⟩
end Go.Proofs.YtmdmnjjlpefigaaGreat
/- The walks through a row taken through another, both sides. -/
namespace Go.Proofs.YtmdmnjjlpefigaaGreat
set_option linter.unusedVariables false
set_option linter.unusedSimpArgs false
open Go.ChangeShapes Go.WideShapes Go.ChangeAt Go.RowKit Go.Deep
set_option maxRecDepth 100000 in
theorem impl_times {a b : ByteArray} {w : World} (ha : a.size ≤ 16777216) (hz : b.size ≤ 16777216) (hf : fits a b) :
    Calls Tryz.prog 36 #[.string a, .string b] w fun e w' => e = .returned (.string (timesS a b)) ∧ Below w.heap.size w w' := by
  have hba := PlainAid.get_bt a
  have hbb := PlainAid.get_bt b
  have hmk := run_make_rec (e := byteE) Tryz.elU8 0 rfl b.size (by omega) (by decide)
  have hE : Hid (timesS a b = strOfNums (timesL a b)) := Lib.hid rfl
  have HF : Hid (fits a b) := hf
  have hr0 : Hid (BRow (w.alloc (.cells (madeCells (byteE 0).toArray (b.size * 1)) 5)) w.heap.size (List.replicate b.size 0)) := Lib.hid (BRow.of_owned (Owned.made (e := byteE) (s := 1) byteE_len w 5 0 b.size (by omega) (Nat.le_refl _)))
  have hb0 : Below w.heap.size w (w.alloc (.cells (madeCells (byteE 0).toArray (b.size * 1)) 5)) := by (repeat' (first | (with_reducible exact Below.refl _ _) | (with_reducible assumption) | (with_reducible refine below_drewN ?_ _) | (with_reducible refine Below.drew ?_) | (with_reducible refine below_alloc ?_ _) | (with_reducible refine Below.alloc ?_ ?_ _) | (with_reducible refine Below.setCell ?_ ?_ _) | (with_reducible refine below_go ?_ (by with_reducible assumption)) | (with_reducible refine below_then (by with_reducible assumption) ?_ ?_) | go_size))
  clear hf
  rw [Nat.mul_one] at hr0 hb0 hmk
  go_in
  go_wp2
  clear hmk
  go_loopw [12] (fun i wr => ∃ (k : Nat) (m : List Int), k ≤ b.size ∧ i = .int .i64 k ∧ Hid (∀ j, j < k → m[j]? = (timesL a b)[j]?) ∧ m.length = b.size ∧ Hid (BRow wr w.heap.size m) ∧ Below w.heap.size w wr) (fun i _ => b.size - (intOf i).toNat)
  case atStart => exact ⟨0, _, Nat.zero_le _, rfl, Lib.hid (fun j hj => absurd hj (by omega)), by simp, hr0, hb0⟩
  case round =>
    obtain ⟨k, m, hk, rfl, HM, hml, HR, hb⟩ := hrel
    by_cases hlt : k < b.size
    · have hr := HF.out k hlt
      obtain ⟨q, hq⟩ : ∃ q : Nat, PlainAid.bt b k = (q : Int) + 49 := ⟨(PlainAid.bt b k - 49).toNat, by omega⟩
      have hqa : q < a.size := by omega
      have hb255 := PlainAid.bt_le b k
      have hq6 : q % 256 = q := by omega
      have hq1 : PlainAid.bt b k - 49 = (q : Int) := by omega
      have hq2 : (PlainAid.bt b k - 49).toNat = q := by omega
      have E := Lib.hid (show (timesL a b)[k]? = some (PlainAid.bt a q) by rw [timesL_at hlt, hq2])
      have d1 := HR.out.2.1 k _ (List.getElem?_eq_getElem (by omega))
      have f1 := HR.out.2.2 k (by omega)
      have hR2 := Lib.hid (HR.out.set (k := k) (by omega) (PlainAid.bt a q))
      go_wp2
      go_roundw
      case rel => exact ⟨k + 1, m.set k (PlainAid.bt a q), by omega, by go_num, Lib.hid (upto_set HM.out E.out (by omega)), by rw [List.length_set]; exact hml, hR2, by (repeat' (first | (with_reducible exact Below.refl _ _) | (with_reducible assumption) | (with_reducible refine below_drewN ?_ _) | (with_reducible refine Below.drew ?_) | (with_reducible refine below_alloc ?_ _) | (with_reducible refine Below.alloc ?_ ?_ _) | (with_reducible refine Below.setCell ?_ ?_ _) | (with_reducible refine below_go ?_ (by with_reducible assumption)) | (with_reducible refine below_then (by with_reducible assumption) ?_ ?_) | go_size))⟩
      case measure => simp [intOf]; omega
    · obtain rfl : k = b.size := by omega
      have e1 : m = timesL a b := eq_of_upto (fun j hj => HM.out j hj) hml (timesL_len a b)
      have ht := HR.out.text (P := Tryz.prog) (src := 70) (e := 5) (dst := 9) b.size b.size hml Tryz.underlying70 Tryz.underlying5 Tryz.underlying9
      rw [e1, ← hE.out] at ht
      go_wp2
      go_ret
      exact ⟨rfl, hb⟩
theorem spec_l1At {b : ByteArray} {k : Nat} {w : World} (hk : k < b.size) (hz : b.size ≤ 16777216) (hlo : 48 ≤ PlainAid.bt b k) :
    Calls Tryz.prog 44 #[.string b, .int .i64 ((k : Int) + 1)] w fun e w' => e = .returned (.int .i64 (PlainAid.bt b k - 48)) ∧ w = w' := by
  have hbb := PlainAid.get_bt b
  have hn1 := PlainAid.bt_le b k
  go_in
  go_wp2
  go_ret
  exact ⟨rfl, rfl⟩
set_option maxRecDepth 100000 in
theorem spec_l1Times {a b : ByteArray} {w : World} (ha : a.size ≤ 16777216) (hz : b.size ≤ 16777216) (hf : fits a b) :
    Calls Tryz.prog 30 #[.string a, .string b] w fun e w' => e = .returned (.string (timesS a b)) ∧ w = w' := by
  have hE : Hid (timesS a b = strOfNums (timesL a b)) := Lib.hid rfl
  have HF : Hid (fits a b) := hf
  clear hf
  go_in
  go_wp2
  go_loopw [5, 6] (fun v i wr => ∃ (k : Nat) (s : ByteArray), k ≤ b.size ∧ i = .int .i64 (k + 1 : Nat) ∧ v = .string s ∧ s.size = k ∧ Hid (s = strOfNums ((timesL a b).take k)) ∧ w = wr) (fun _ i _ => b.size + 1 - (intOf i).toNat)
  case atStart => exact ⟨0, _, Nat.zero_le _, rfl, rfl, rfl, Lib.hid rfl, rfl⟩
  case round =>
    obtain ⟨k, s, hk, rfl, rfl, hsk, HS, rfl⟩ := hrel
    by_cases hlt : k < b.size
    · have hr := HF.out k hlt
      obtain ⟨q, hq⟩ : ∃ q : Nat, PlainAid.bt b k = (q : Int) + 49 := ⟨(PlainAid.bt b k - 49).toNat, by omega⟩
      have hqa : q < a.size := by omega
      have hq2 : (PlainAid.bt b k - 49).toNat = q := by omega
      have hq3 : PlainAid.bt b k - 48 = (q : Int) + 1 := by omega
      have E := Lib.hid (show (timesL a b)[k]? = some (PlainAid.bt a q) by rw [timesL_at hlt, hq2])
      have hx := one_byte hqa
      have hxs : (a.extract q (q + 1)).size = 1 := by rw [hx]; rfl
      have hsz : (s ++ a.extract q (q + 1)).size = k + 1 := by rw [ByteArray.size_append, hxs, hsk]
      have HS2 := Lib.hid (show s ++ a.extract q (q + 1) = strOfNums ((timesL a b).take (k + 1)) by rw [HS.out, hx, take_succ_some E.out, strOf_append])
      have h48 : 48 ≤ PlainAid.bt b k := by omega
      clear hx
      go_wp2_with (first | (go_at_call 44; refine (spec_l1At hlt hz h48).mono ?_; rw [hq3]; rintro e w' ⟨rfl, rfl⟩))
      go_roundw
      case rel => exact ⟨k + 1, s ++ a.extract q (q + 1), by omega, by go_num, rfl, hsz, HS2, trivial⟩
      case measure => simp [intOf]; omega
    · obtain rfl : k = b.size := by omega
      have e1 := Lib.hid (show s = timesS a b by rw [HS.out, hE.out, List.take_of_length_le (by rw [timesL_len]; exact Nat.le_refl _)])
      go_wp2
      go_ret
      rw [e1.out]
      exact ⟨rfl, rfl⟩
end Go.Proofs.YtmdmnjjlpefigaaGreat
/- Tables of ints: a row of slices, each of them a row of ints of its own. -/
namespace Go.Proofs.YtmdmnjjlpefigaaGreat
set_option linter.unusedVariables false
set_option linter.unusedSimpArgs false
open Go.ChangeShapes Go.WideShapes Go.ChangeAt Go.RowKit Go.Deep

theorem wrap_id {x : Int} (h : -9223372036854775808 ≤ x ∧ x ≤ 9223372036854775807) : IntKind.i64.wrap x = x := by
  rw [PlainAid.i64_is]; unfold wrap64; omega
theorem wrap_succ {k : Nat} (h : k ≤ 16777216) : IntKind.i64.wrap ((k : Int) + 1) = ((k + 1 : Nat) : Int) := by
  rw [wrap_id (by omega)]; omega
/-- A slice's head: address, elements, capacity. -/
abbrev Hd := Option Addr × Nat × Nat
def slcE (v : Hd) : List Value := [.slice v.1 v.2.1 v.2.2]
theorem slcE_len (v : Hd) : (slcE v).length = 1 := rfl
theorem slcE_one (v : Hd) : ∀ u ∈ slcE v, u.oneCell' = true := fun u hu => by simp [slcE] at hu; subst hu; rfl
theorem Recs.at_slc {w : World} {A : Option Addr} {l : List Hd} {k : Nat} (h : Recs slcE 1 w A l) (hk : k < l.length) : ∃ b off x, A = some ⟨b, off, none⟩ ∧ b < w.heap.size ∧ l[k]? = some x ∧ w.cell? ⟨b, off + k, none⟩ = some (.slice x.1 x.2.1 x.2.2) := by
  obtain ⟨b, off, hA, hb, hc⟩ := h.cells (by omega)
  obtain ⟨x, hx⟩ := some_of_lt hk
  exact ⟨b, off, x, hA, hb, hx, by simpa using hc k x 0 _ hx rfl⟩

theorem Owned.same {α : Type} {e : α → List Value} {s : Nat} {E : TypeId} {w w' : World} {base : Nat} {A : Option Addr} {n c : Nat} {l : List α} (h : Owned e s E w base A n c l)
    (hk : ∀ g, (Value.slice A n c).ownBlock = some g → w'.heap[g]? = w.heap[g]?) : Owned e s E w' base A n c l := by
  refine ⟨h.1, h.2.1, h.2.2.1, ?_⟩
  rcases h.2.2.2 with h0 | ⟨g, cap, cur, hv, hg, hh, r⟩
  · exact .inl h0
  · refine .inr ⟨g, cap, cur, hv, hg, ?_, r⟩
    rw [hk g (by rw [hv]; rfl)]
    exact hh

/-- The table T is what the heads vs in the row with address A read as. -/
def TabR (vs : List Hd) (w : World) (A : Option Addr) (T : List (List Int)) : Prop :=
  vs.length = T.length ∧ Recs slcE 1 w A vs ∧ ∀ (k : Nat) (v : Hd) (r : List Int), vs[k]? = some v → T[k]? = some r → v.2.1 = r.length ∧ Ints w v.1 r
theorem TabR.below {vs : List Hd} {w w' : World} {A : Option Addr} {T : List (List Int)} {B : Nat} (h : TabR vs w A T) (hb : Below B w w') (hB : w.heap.size ≤ B) : TabR vs w' A T :=
  ⟨h.1, h.2.1.below hb hB, fun k v r hv hr => ⟨(h.2.2 k v r hv hr).1, (h.2.2 k v r hv hr).2.below hb hB⟩⟩
theorem TabR.up {vs : List Hd} {w w' : World} {A : Option Addr} {T : List (List Int)} (h : TabR vs w A T) (hb : Below w.heap.size w w') : TabR vs w' A T := h.below hb (Nat.le_refl _)
/-- Row k of a table that is read: its head's cell, and the row. -/
theorem TabR.row {vs : List Hd} {w : World} {A : Option Addr} {T : List (List Int)} {k : Nat} (h : TabR vs w A T) (hk : k < T.length) :
    ∃ b off v r, A = some ⟨b, off, none⟩ ∧ b < w.heap.size ∧ T[k]? = some r ∧ w.cell? ⟨b, off + k, none⟩ = some (.slice v r.length (v, r.length, (vs[k]?.getD (none, 0, 0)).2.2).2.2) ∧ Ints w v r := by
  obtain ⟨b, off, v, hA, hb, hv, hc⟩ := h.2.1.at_slc (k := k) (by rw [h.1]; exact hk)
  obtain ⟨r, hr⟩ := some_of_lt hk
  obtain ⟨h1, h2⟩ := h.2.2 k v r hv hr
  refine ⟨b, off, v.1, r, hA, hb, hr, ?_, h2⟩
  rw [hc, h1, hv]; rfl
theorem TabR.rowc {vs : List Hd} {w : World} {A : Option Addr} {T : List (List Int)} {i : Nat} {r : List Int} (h : TabR vs w A T) (hr : T[i]? = some r) (h0 : 0 < r.length) :
    ∃ g og b o c, A = some ⟨g, og, none⟩ ∧ g < w.heap.size ∧ b < w.heap.size ∧ w.cell? ⟨g, og + i, none⟩ = some (.slice (some ⟨b, o, none⟩) r.length c) ∧ ∀ j x, r[j]? = some x → w.cell? ⟨b, o + j, none⟩ = some (.int .i64 x) := by
  obtain ⟨g, og, v, hA, hb, hv, hc⟩ := h.2.1.at_slc (k := i) (by rw [h.1]; exact (List.getElem?_eq_some_iff.1 hr).1)
  obtain ⟨h1, h2⟩ := h.2.2 i v r hv hr
  obtain ⟨b, o, hA2, hb2, hc2⟩ := h2.cells h0
  refine ⟨g, og, b, o, v.2.2, hA, hb, hb2, ?_, fun j x hx => by simpa using hc2 j x 0 _ hx rfl⟩
  rw [hc, h1, hA2]
end Go.Proofs.YtmdmnjjlpefigaaGreat
/- Appending one record inside a region that draws its order. -/
namespace Go.Proofs.YtmdmnjjlpefigaaGreat
set_option linter.unusedVariables false
set_option linter.unusedSimpArgs false
open Go.ChangeShapes Go.WideShapes Go.ChangeAt Go.RowKit Go.Deep
theorem Owned.drew {α : Type} {e : α → List Value} {s : Nat} {E : TypeId} {w : World} {base : Nat} {A : Option Addr} {n c : Nat} {l : List α} (h : Owned e s E w base A n c l) : Owned e s E w.drew base A n c l := h.up (Below.drew (Below.refl _ _))
theorem Box.drew {w : World} {b : Nat} {cs : List Value} (h : Box w b cs) : Box w.drew b cs := h
theorem step_append_rec {P : Program} {α : Type} {e : α → List Value} {s bytes : Nat} {t E : TypeId} {z : Value} (he : ElemOk P t E z s bytes) {ops : Array Oper} {o : Oper} {a : Act} {K : Act → World → Prop} {Q : Exit → Act → World → Prop} {E' : Prop} {W : World}
    (hgd : o.guard = none) (S X : Operand) (ho : o.op = .call { callee := .builtin .append, args := #[S, X], argTypes := #[t, t] })
    {base : Nat} {A : Option Addr} {n c : Nat} {l : List α} (hs : a.eval S = .slice A n c) (hown : Owned e s E W base A n c l) (x : α) {b cx : Nat} (hx : a.eval X = .slice (some ⟨b, 0, none⟩) 1 cx)
    (hnew : Box W b (e x)) (h1 : ∀ u ∈ e x, u.oneCell' = true) (hn : n ≤ 16777216) (hby : bytes ≤ 4096) (hbase : base ≤ W.heap.size)
    (h : ∀ A' c' w', Owned e s E w' base A' (n + 1) c' (l ++ [x]) → W.grownBy w' (Value.slice A n c).ownBlock → Below base W w' → K (a.put o.dst (.slice A' (n + 1) c')) w') :
    if Region.wanted o (yielded ops a.tmps) = true then Oper.wp P o a W K Q else E' := by
  obtain ⟨i0, hi, hz0, hz1, hz2⟩ := info_parts he.info
  refine step_append_lies W hgd S X t ho base E i0 z s bytes he.under hi hz0 hz1 hz2 he.zs he.pos _ n _ hs hown.2.2 ⟨b, 0, none⟩ 1 cx (e x) hx (by rw [hown.1]; omega)
    (fun j u hu => by rw [Go.WideShapes.add_plain, Nat.zero_add]; exact hnew j u hu) h1 (by omega) (by unfold maxLen; omega) ?_ hbase W.heap.size rfl ?_
  · exact Nat.le_trans (Nat.mul_le_mul (show n + 1 ≤ 16777217 by omega) hby) (by decide)
  · intro g cap w' hown' hg _ _
    have ho' : Owned e s E w' base (some ⟨g, 0, none⟩) (n + 1) cap (l ++ [x]) := ⟨hown.1, by simp [hown.2.1], by simpa using hown'⟩
    exact h _ _ w' ho' hg ((Below.refl _ _).grown hg hbase fun k hk => (hown.blk hk).1)
end Go.Proofs.YtmdmnjjlpefigaaGreat
/- Appending many records at once, from wherever they are read; rows of rows. -/
namespace Go.Proofs.YtmdmnjjlpefigaaGreat
set_option linter.unusedVariables false
set_option linter.unusedSimpArgs false
open Go.ChangeShapes Go.WideShapes Go.ChangeAt Go.RowKit Go.Deep
theorem flatMap_nil_of {α : Type} {e : α → List Value} {s : Nat} {l : List α} (h : l.length = 0) : l.flatMap e = [] := by
  rw [List.length_eq_zero_iff] at h
  subst h; rfl
theorem run_append_recs {P : Program} {α : Type} {e : α → List Value} {s bytes : Nat} {t E : TypeId} {z : Value} (he : ElemOk P t E z s bytes) (h1 : ∀ x, ∀ u ∈ e x, u.oneCell' = true) {W : World} {base : Nat} {A : Option Addr} {n c : Nat} {l : List α} (hown : Owned e s E W base A n c l)
    {B : Option Addr} {m d : Nat} {l2 : List α} (hr : Recs e s W B l2) (hm : l2.length = m) (hn : n + m ≤ 16777216) (hby : bytes ≤ 4096) (hbase : base ≤ W.heap.size) (ty : TypeId) :
    ∃ A' c' w', (Builtin.append_ #[t, t] ty #[.slice A n c, .slice B m d]).run P W = .ok (.slice A' (n + m) c') w' ∧ Owned e s E w' base A' (n + m) c' (l ++ l2) ∧ W.grownBy w' (Value.slice A n c).ownBlock ∧
      (∀ k, (Value.slice A' (n + m) c').ownBlock = some k → (Value.slice A n c).ownBlock = some k ∨ W.heap.size ≤ k) := by
  obtain ⟨i0, hi, hz0, hz1, hz2⟩ := info_parts he.info
  subst hm
  rcases B with _ | ad
  · have hm : l2.length = 0 := by
      rcases Nat.eq_zero_or_pos l2.length with h | h
      · exact h
      · obtain ⟨b, o, e1, _⟩ := hr.2.2 h
        cases e1
    have e2 : l2 = [] := List.eq_nil_of_length_eq_zero hm
    subst e2
    refine ⟨A, c, W, ?_, by simpa using hown, World.grownBy.refl W _, fun k hk => .inl hk⟩
    rcases hown.2.2.2 with ⟨hv, h0⟩ | ⟨g, cap, cur, hv, _, _, hnc, _⟩
    · injection hv with a1 a2 a3
      subst a1 a2 a3
      simp [Builtin.append_, run_underlying he.under, sizeOf, typeInfo, hi, Builtin.lenOf, Builtin.firstCells]
    · injection hv with a1 a2 a3
      subst a1 a3
      simp [Builtin.append_, run_underlying he.under, sizeOf, typeInfo, hi, Builtin.lenOf, Builtin.firstCells, hnc, storeCells]
  · have hcells : ∀ j u, (l2.flatMap e)[j]? = some u → W.cell? (ad.add j) = some u := by
      intro j u hu
      rcases Nat.eq_zero_or_pos l2.length with h0 | h0
      · rw [flatMap_nil_of (e := e) (s := s) h0] at hu; simp at hu
      · obtain ⟨b, o, e1, _, hc⟩ := hr.2.2 h0
        injection e1 with e1
        subst e1
        rw [Go.WideShapes.add_plain]
        exact hc j u hu
    obtain ⟨v', w', hrun, h2, h3, _, h5⟩ := run_append_own_at (P := P) W base t ty E i0 z s bytes he.under hi hz0 hz1 hz2 he.zs he.pos _ n _ hown.2.2 ad l2.length d (l2.flatMap e) (flatMap_len hown.1 l2) hcells
      (fun u hu => by obtain ⟨x, _, hx⟩ := List.mem_flatMap.1 hu; exact h1 x u hx) (by unfold maxLen; omega) (Nat.le_trans (Nat.mul_le_mul hn hby) (by decide)) hbase
    obtain ⟨A', c', rfl, ho⟩ := Owned.of_row (l := l ++ l2) hown.1 h2 (by simp) (by rw [List.length_append, hown.2.1])
    refine ⟨A', c', w', hrun, ho, h3, fun k hk => ?_⟩
    rcases h5 with h5 | h5
    · exact .inl (by rw [← h5]; exact hk)
    · right
      rw [h5] at hk
      injection hk with hk
      omega
theorem wp_append_recs {P : Program} {α : Type} {e : α → List Value} {s bytes : Nat} {t E : TypeId} {z : Value} (he : ElemOk P t E z s bytes) (h1 : ∀ x, ∀ u ∈ e x, u.oneCell' = true) {o : Oper} {a : Act} {K : Act → World → Prop} {Q : Exit → Act → World → Prop} {W : World}
    (S X : Operand) (ho : o.op = .call { callee := .builtin .append, args := #[S, X], argTypes := #[t, t] })
    {base : Nat} {A : Option Addr} {n c : Nat} {l : List α} (hs : a.eval S = .slice A n c) (hown : Owned e s E W base A n c l) {B : Option Addr} {m d : Nat} {l2 : List α} (hx : a.eval X = .slice B m d) (hr : Recs e s W B l2) (hm : l2.length = m)
    (hn : n + m ≤ 16777216) (hby : bytes ≤ 4096) (hbase : base ≤ W.heap.size)
    (h : ∀ A' c' w', Owned e s E w' base A' (n + m) c' (l ++ l2) → W.grownBy w' (Value.slice A n c).ownBlock → (∀ k, (Value.slice A' (n + m) c').ownBlock = some k → (Value.slice A n c).ownBlock = some k ∨ W.heap.size ≤ k) → K (a.put o.dst (.slice A' (n + m) c')) w') : o.wp P a W K Q := by
  obtain ⟨A', c', w', hrun, h2, h3, h4⟩ := run_append_recs he h1 hown hr hm hn hby hbase o.type
  unfold Oper.wp execOp
  simp only [ho, resolve, invoke, builtin, Sem.run_bind, Sem.run_pure, Result.andThen_ok, List.map_toArray, List.map_cons, List.map_nil, hs, hx]
  rw [hrun]
  exact h A' c' w' h2 h3 h4
/-- 'append(xs, ys...)' onto a row of the call's own. -/
theorem wpList_append_recs {P : Program} {α : Type} {e : α → List Value} {s bytes : Nat} {t E : TypeId} {z : Value} (he : ElemOk P t E z s bytes) (h1 : ∀ x, ∀ u ∈ e x, u.oneCell' = true) {ops : Array Oper} {rest : List Oper} {o : Oper} {a : Act} {Q : Exit → Act → World → Prop} {W : World}
    (hgd : o.guard = none) (S X : Operand) (ho : o.op = .call { callee := .builtin .append, args := #[S, X], argTypes := #[t, t] })
    {base : Nat} {A : Option Addr} {n c : Nat} {l : List α} (hs : a.eval S = .slice A n c) (hown : Owned e s E W base A n c l) {B : Option Addr} {m d : Nat} {l2 : List α} (hx : a.eval X = .slice B m d) (hr : Recs e s W B l2) (hm : l2.length = m)
    (hn : n + m ≤ 16777216) (hby : bytes ≤ 4096) (hbase : base ≤ W.heap.size)
    (h : ∀ A' c' w', Owned e s E w' base A' (n + m) c' (l ++ l2) → W.grownBy w' (Value.slice A n c).ownBlock → (∀ k, (Value.slice A' (n + m) c').ownBlock = some k → (Value.slice A n c).ownBlock = some k ∨ W.heap.size ≤ k) → wpList P ops Q rest (a.put o.dst (.slice A' (n + m) c')) w') :
    wpList P ops Q (o :: rest) a W :=
  wpList_plain hgd fun _ hK => wp_append_recs he h1 S X ho hs hown hx hr hm hn hby hbase fun A' c' w' h2 h3 h4 => hK _ _ (h A' c' w' h2 h3 h4)
theorem step_append_recs {P : Program} {α : Type} {e : α → List Value} {s bytes : Nat} {t E : TypeId} {z : Value} (he : ElemOk P t E z s bytes) (h1 : ∀ x, ∀ u ∈ e x, u.oneCell' = true) {ops : Array Oper} {o : Oper} {a : Act} {K : Act → World → Prop} {Q : Exit → Act → World → Prop} {E' : Prop} {W : World}
    (hgd : o.guard = none) (S X : Operand) (ho : o.op = .call { callee := .builtin .append, args := #[S, X], argTypes := #[t, t] })
    {base : Nat} {A : Option Addr} {n c : Nat} {l : List α} (hs : a.eval S = .slice A n c) (hown : Owned e s E W base A n c l) {B : Option Addr} {m d : Nat} {l2 : List α} (hx : a.eval X = .slice B m d) (hr : Recs e s W B l2) (hm : l2.length = m)
    (hn : n + m ≤ 16777216) (hby : bytes ≤ 4096) (hbase : base ≤ W.heap.size)
    (h : ∀ A' c' w', Owned e s E w' base A' (n + m) c' (l ++ l2) → W.grownBy w' (Value.slice A n c).ownBlock → (∀ k, (Value.slice A' (n + m) c').ownBlock = some k → (Value.slice A n c).ownBlock = some k ∨ W.heap.size ≤ k) → K (a.put o.dst (.slice A' (n + m) c')) w') :
    if Region.wanted o (yielded ops a.tmps) = true then Oper.wp P o a W K Q else E' := by
  have hw : Region.wanted o (yielded ops a.tmps) = true := by simp [Region.wanted, hgd]
  rw [if_pos hw]
  exact wp_append_recs he h1 S X ho hs hown hx hr hm hn hby hbase h
theorem grown_base {w w' : World} {v : Value} {base : Nat} (hg : w.grownBy w' v.ownBlock) (hb : base ≤ w.heap.size) (hr : ∀ k, v.ownBlock = some k → base ≤ k) : Below base w w' := (Below.refl _ _).grown hg hb fun k hk => hr k hk
theorem lit_app {w w' : World} {o : Obj} {n c : Nat} (hg : (w.alloc o).grownBy w' (Value.slice (some ⟨w.heap.size, 0, none⟩) n c).ownBlock) : Below w.heap.size w w' :=
  ((Below.refl _ _).alloc (Nat.le_refl _) _).trans (grown_base hg (by simp) (fun k hk => by injection hk with hk; dsimp only at hk; omega))
theorem Recs.alloc {α : Type} {e : α → List Value} {s : Nat} {w : World} {A : Option Addr} {l : List α} (h : Recs e s w A l) (o : Obj) : Recs e s (w.alloc o) A l := h.up ((Below.refl _ _).alloc (Nat.le_refl _) o)
/-- Two rows of different element types lie in different blocks. -/
theorem Owned.ne {α β : Type} {e : α → List Value} {s : Nat} {E : TypeId} {e' : β → List Value} {s' : Nat} {E' : TypeId} {w : World} {base base' : Nat} {A B : Option Addr} {n c m d : Nat} {l : List α} {l' : List β}
    (h : Owned e s E w base A n c l) (h' : Owned e' s' E' w base' B m d l') (hE : E ≠ E') : ∀ k, (Value.slice A n c).ownBlock = some k → (Value.slice B m d).ownBlock ≠ some k := by
  intro k hk hk'
  rcases h.2.2.2 with ⟨hv, _⟩ | ⟨g, cap, cur, hv, _, hh, _⟩
  · rw [hv] at hk; cases hk
  · rcases h'.2.2.2 with ⟨hv', _⟩ | ⟨g', cap', cur', hv', _, hh', _⟩
    · rw [hv'] at hk'; cases hk'
    · rw [hv] at hk; rw [hv'] at hk'
      injection hk with hk; injection hk' with hk'
      dsimp only at hk hk'
      subst hk; subst hk'
      rw [hh] at hh'
      injection hh' with hh'
      injection hh' with _ e2 _
      exact hE e2
/-- A list of rows of the call's own: the heads' row, and each head's row. -/
structure LT {α : Type} (e : α → List Value) (s : Nat) (E F : TypeId) (vs : List Hd) (w : World) (base : Nat) (A : Option Addr) (n c : Nat) (T : List (List α)) : Prop where
  len : T.length = n
  top : Owned slcE 1 F w base A n c vs
  row : ∀ (k : Nat) (v : Hd) (r : List α), vs[k]? = some v → T[k]? = some r → Owned e s E w base v.1 v.2.1 v.2.2 r
section
variable {α : Type} {e : α → List Value} {s : Nat} {E F : TypeId} {vs us : List Hd} {w w' : World} {base : Nat} {A : Option Addr} {n c : Nat} {T : List (List α)}
theorem LT.nil (w : World) (base : Nat) : LT e s E F [] w base none 0 0 ([] : List (List α)) := ⟨rfl, Owned.nil slcE_len _ _ _, fun k v r hv _ => by simp at hv⟩
theorem LT.up (h : LT e s E F vs w base A n c T) (hb : Below w.heap.size w w') : LT e s E F vs w' base A n c T := ⟨h.len, h.top.up hb, fun k v r hv hr => (h.row k v r hv hr).up hb⟩
theorem LT.base_le {base' : Nat} (h : LT e s E F vs w base A n c T) (hb : base' ≤ base) : LT e s E F vs w base' A n c T := ⟨h.len, h.top.base_le hb, fun k v r hv hr => (h.row k v r hv hr).base_le hb⟩
theorem LT.alloc (h : LT e s E F vs w base A n c T) (o : Obj) : LT e s E F vs (w.alloc o) base A n c T := h.up ((Below.refl _ _).alloc (Nat.le_refl _) o)
theorem LT.vlen (h : LT e s E F vs w base A n c T) : vs.length = T.length := by rw [h.top.len, h.len]
/-- One head is appended. -/
theorem LT.add {A' : Option Addr} {c' : Nat} {v : Hd} {r : List α} (h : LT e s E F vs w base A n c T) (hEF : E ≠ F) (hr : Owned e s E w base v.1 v.2.1 v.2.2 r) (ho : Owned slcE 1 F w' base A' (n + 1) c' (vs ++ [v])) (hg : w.grownBy w' (Value.slice A n c).ownBlock) :
    LT e s E F (vs ++ [v]) w' base A' (n + 1) c' (T ++ [r]) := by
  have hne : ∀ {v : Hd} {r : List α}, Owned e s E w base v.1 v.2.1 v.2.2 r → Owned e s E w' base v.1 v.2.1 v.2.2 r := fun hq => hq.kept hg fun k hk e2 => hq.ne h.top hEF k hk e2
  refine ⟨by rw [List.length_append, h.len]; rfl, ho, fun k u q hu hq => ?_⟩
  rw [List.getElem?_append] at hu hq
  by_cases hk : k < vs.length
  · rw [if_pos hk] at hu
    rw [if_pos (by rw [← h.vlen]; exact hk)] at hq
    exact hne (h.row k u q hu hq)
  · rw [if_neg hk] at hu
    rw [if_neg (by rw [← h.vlen]; exact hk)] at hq
    have hk0 : k - vs.length = 0 := by
      have := (List.getElem?_eq_some_iff.1 hu).1
      simp at this; omega
    rw [hk0] at hu
    rw [← h.vlen, hk0] at hq
    simp at hu hq
    subst hu hq
    exact hne hr
/-- The heads of another list are appended. -/
theorem LT.join {A' B : Option Addr} {c' m d : Nat} {T' : List (List α)} (h : LT e s E F vs w base A n c T) (hEF : E ≠ F) (h' : LT e s E F us w base B m d T') (ho : Owned slcE 1 F w' base A' (n + m) c' (vs ++ us)) (hg : w.grownBy w' (Value.slice A n c).ownBlock) :
    LT e s E F (vs ++ us) w' base A' (n + m) c' (T ++ T') := by
  have hne : ∀ {v : Hd} {r : List α}, Owned e s E w base v.1 v.2.1 v.2.2 r → Owned e s E w' base v.1 v.2.1 v.2.2 r := fun hq => hq.kept hg fun k hk e2 => hq.ne h.top hEF k hk e2
  refine ⟨by rw [List.length_append, h.len, h'.len], ho, fun k u q hu hq => ?_⟩
  rw [List.getElem?_append] at hu hq
  by_cases hk : k < vs.length
  · rw [if_pos hk] at hu
    rw [if_pos (by rw [← h.vlen]; exact hk)] at hq
    exact hne (h.row k u q hu hq)
  · rw [if_neg hk] at hu
    rw [if_neg (by rw [← h.vlen]; exact hk)] at hq
    rw [← h.vlen] at hq
    exact hne (h'.row _ u q hu hq)
/-- Row k, as it is read. -/
theorem LT.at_ (h : LT e s E F vs w base A n c T) {k : Nat} (hk : k < n) : ∃ b off v r, A = some ⟨b, off, none⟩ ∧ b < w.heap.size ∧ T[k]? = some r ∧ vs[k]? = some v ∧ w.cell? ⟨b, off + k, none⟩ = some (.slice v.1 r.length v.2.2) ∧ Owned e s E w base v.1 r.length v.2.2 r := by
  obtain ⟨b, off, v, hA, hb, hv, hc⟩ := h.top.recs.at_slc (k := k) (by rw [h.top.len]; exact hk)
  obtain ⟨r, hr⟩ := some_of_lt (l := T) (k := k) (by rw [h.len]; exact hk)
  have ho := h.row k v r hv hr
  have hl := ho.len
  rw [← hl] at ho hc
  exact ⟨b, off, v, r, hA, hb, hr, hv, hc, ho⟩
end
end Go.Proofs.YtmdmnjjlpefigaaGreat
/- A map to bools that the call has made, used as a set of keys. -/
namespace Go.Proofs.YtmdmnjjlpefigaaGreat
set_option linter.unusedVariables false
set_option linter.unusedSimpArgs false
open Go.ChangeShapes Go.WideShapes Go.ChangeAt Go.RowKit Go.Deep
open Go.Maps (Keyed)

/-- Block b is a map of at most n entries that holds true at the keys of S and at no other. -/
def SetOf (P : Program) (w : World) (k e : TypeId) (b n : Nat) (S : List Value) : Prop :=
  ∃ D : DataW Unit, w.ownsMap P k (plainElem P e) b n D ∧ ∀ key kl, keyOf P k key = some kl → (key ∈ S → D.atKey kl (.lit (.bool false)) = .lit (.bool true)) ∧ (key ∉ S → D.atKey kl (.lit (.bool false)) = .lit (.bool false))
section
variable {P : Program} {w w' : World} {k e : TypeId} {b n : Nat} {S : List Value}
theorem SetOf.made (P : Program) (w : World) (k e : TypeId) : SetOf P (w.alloc (.map #[] 0)) k e w.heap.size 0 [] :=
  ⟨.map [], World.ownsMap_made w P k _, fun key kl _ => ⟨fun h => (by cases h), fun _ => rfl⟩⟩
theorem SetOf.lt (h : SetOf P w k e b n S) : b < w.heap.size := by
  obtain ⟨D, h1, _⟩ := h
  exact h1.lt
theorem SetOf.kept {row : Option Nat} (h : SetOf P w k e b n S) (hg : w.grownBy w' row) (hne : some b ≠ row) : SetOf P w' k e b n S := by
  obtain ⟨D, h1, h2⟩ := h
  exact ⟨D, h1.kept hg hne, h2⟩
theorem SetOf.up (h : SetOf P w k e b n S) (hb : Below w.heap.size w w') : SetOf P w' k e b n S := h.kept (grown_of_below hb) (by simp)
theorem SetOf.alloc (h : SetOf P w k e b n S) (o : Obj) : SetOf P (w.alloc o) k e b n S := h.up ((Below.refl _ _).alloc (Nat.le_refl _) o)
theorem plainElem_bool_inv (he : P.underlying e = some .bool) {v : Value} {x : Bool} {ps : List MemPlace} (h : plainElem (H := Unit) P e v = some (.lit (.bool x), ps)) : v = .bool x := by
  unfold plainElem at h
  rw [he] at h
  cases v <;> simp at h
  rw [h.1]
theorem SetOf.look {t : TypeId} (h : SetOf P w k e b n S) (K : Keyed P k) (ht : P.underlying t = some (.map k e)) (he : P.underlying e = some .bool) (hz : (zeroValue e).run P w = .ok (.bool false) w) {key : Value} {kl : Lit} (hkey : keyOf P k key = some kl) :
    (key ∈ S → (Instr.lookup t (.map (some b)) key false).run P w = .ok (.bool true) w) ∧ (key ∉ S → (Instr.lookup t (.map (some b)) key false).run P w = .ok (.bool false) w) := by
  obtain ⟨D, h1, h2⟩ := h
  obtain ⟨v, ps, hrun, hv⟩ := h1.lookup K ht hz (plainElem_bool he false) hkey
  obtain ⟨a1, a2⟩ := h2 key kl hkey
  refine ⟨fun hi => ?_, fun hi => ?_⟩
  · rw [a1 hi] at hv
    rw [hrun, plainElem_bool_inv he hv]
  · rw [a2 hi] at hv
    rw [hrun, plainElem_bool_inv he hv]
end
theorem wpList_set_add {P : Program} {ops : Array Oper} {rest : List Oper} {o : Oper} {a : Act} {Q : Exit → Act → World → Prop} {W : World} (hgd : o.guard = none) (M X V : Operand) (t : TypeId) (hop : o.op = Op.mapUpdate t M X V)
    {k e : TypeId} (K : Keyed P k) (ht : P.underlying t = some (.map k e)) (he : P.underlying e = some .bool) {b n : Nat} {S : List Value} (hm : a.eval M = .map (some b)) (h : SetOf P W k e b n S) (hn : n ≤ 16777216) {key : Value} (hx : a.eval X = key) (hv : a.eval V = .bool true)
    {kl : Lit} (hkey : keyOf P k key = some kl) (hK : ∀ w', SetOf P w' k e b (n + 1) (key :: S) → W.grownBy w' (some b) → wpList P ops Q rest (a.put o.dst undef) w') : wpList P ops Q (o :: rest) a W := by
  obtain ⟨D, h1, h2⟩ := h
  refine wpList_mapUpdate_own W hgd M X V t hop k e K ht _ b n D hm h1 (by unfold maxLen; omega) key (.bool true) kl hx hv hkey (.lit (.bool true)) [] (plainElem_bool he true) fun w' hown hg => hK w' ⟨_, hown, fun key' kl' hk' => ?_⟩ hg
  by_cases ek : kl' = kl
  · subst ek
    have e1 : key' = key := K.inj hk' hkey
    subst e1
    rw [Maps.atKey_put_same h1.isMap (K.key hkey)]
    exact ⟨fun _ => rfl, fun hne => absurd (List.mem_cons_self ..) hne⟩
  · have e1 : key' ≠ key := fun e2 => ek (by rw [e2, hkey] at hk'; injection hk' with hk'; exact hk'.symm)
    rw [Maps.atKey_put_other ek]
    obtain ⟨a1, a2⟩ := h2 key' kl' hk'
    refine ⟨fun hi => a1 ?_, fun hi => a2 (fun hc => hi (List.mem_cons_of_mem _ hc))⟩
    rcases List.mem_cons.1 hi with hi | hi
    · exact absurd hi e1
    · exact hi
end Go.Proofs.YtmdmnjjlpefigaaGreat
/- The walks through truth: no row twice, both sides' ways. -/
namespace Go.Proofs.YtmdmnjjlpefigaaGreat
set_option linter.unusedVariables false
set_option linter.unusedSimpArgs false
open Go.ChangeShapes Go.WideShapes Go.ChangeAt Go.RowKit Go.Deep
open Go.Maps (Keyed string_keyed)
open Go.WideMaps (keyOf_string_mk)
def strV (s : ByteArray) : Value := .string s
theorem strV_mem {s : ByteArray} {l : List ByteArray} : strV s ∈ l.map strV ↔ s ∈ l := by
  rw [List.mem_map]
  constructor
  · rintro ⟨x, hx, e⟩
    injection e with e
    subst e; exact hx
  · intro h; exact ⟨s, h, rfl⟩
end Go.Proofs.YtmdmnjjlpefigaaGreat
/- The walks through the reference's sort of texts, and its search for repeats. -/
namespace Go.Proofs.YtmdmnjjlpefigaaGreat
set_option linter.unusedVariables false
set_option linter.unusedSimpArgs false
open Go.ChangeShapes Go.WideShapes Go.ChangeAt Go.RowKit Go.Deep
/-- A part of a row. -/
theorem Recs.part {α : Type} {e : α → List Value} {s : Nat} {w : World} {b o : Nat} {l : List α} (h : Recs e s w (some ⟨b, o, none⟩) l) (i j : Nat) (hij : i ≤ j) (hj : j ≤ l.length) : Recs e s w (some ⟨b, o + i * s, none⟩) ((l.drop i).take (j - i)) := by
  refine ⟨h.1, by rw [flatMap_len h.1], fun hn => ?_⟩
  have hlen : ((l.drop i).take (j - i)).length = j - i := by rw [List.length_take, List.length_drop]; omega
  obtain ⟨b', o', e1, hb, hc⟩ := h.cells (by omega)
  injection e1 with e1
  injection e1 with e1 e2
  subst e1 e2
  refine ⟨b, o + i * s, rfl, hb, fun q u hu => ?_⟩
  have hq := (List.getElem?_eq_some_iff.1 hu).1
  rw [flatMap_len h.1, hlen] at hq
  have hs : 0 < s := by
    rcases Nat.eq_zero_or_pos s with h0 | h0
    · subst h0; omega
    · exact h0
  have hdm : q / s * s + q % s = q := Nat.div_add_mod' q s
  have hqs : q / s < j - i := Nat.div_lt_of_lt_mul (by rw [Nat.mul_comm]; exact hq)
  obtain ⟨x, hx⟩ := some_of_lt (l := (l.drop i).take (j - i)) (k := q / s) (by omega)
  have a1 := flatMap_at h.1 _ (q / s) x (q % s) hx (Nat.mod_lt q hs)
  rw [hdm, hu] at a1
  have hx2 : l[i + q / s]? = some x := by
    rw [List.getElem?_take, if_pos hqs, List.getElem?_drop] at hx; exact hx
  have := hc (i + q / s) x (q % s) u hx2 a1.symm
  rw [show o + i * s + q = o + (i + q / s) * s + q % s by rw [Nat.add_mul]; omega]
  exact this
theorem Owned.cap {α : Type} {e : α → List Value} {s : Nat} {E : TypeId} {w : World} {base : Nat} {A : Option Addr} {n c : Nat} {l : List α} (h : Owned e s E w base A n c l) : n ≤ c ∧ c ≤ 9223372036854775807 := by
  rcases h.2.2.2 with ⟨hv, h0⟩ | ⟨g, cap, cur, hv, _, _, hnc, hcap, _, _⟩
  · injection hv with _ _ e3
    subst e3 h0
    exact ⟨Nat.le_refl _, by omega⟩
  · injection hv with _ _ e3
    subst e3
    exact ⟨hnc, by unfold maxLen at hcap; omega⟩
theorem spec_l1OwnS {A : Option Addr} {N c : Nat} {l : List ByteArray} {w : World} (hN : l.length = N) (h : Strs w A l) (hz : N ≤ 16000000) :
    Calls Tryz.prog 65 #[.slice A N c] w fun e w' => ∃ A' c', e = .returned (.slice A' N c') ∧ Owned strE 1 9 w' w.heap.size A' N c' l ∧ Below w.heap.size w w' := by
  go_in
  go_wp2_with (first | (at_builtin; go_must ((refine wpList_append_recs Tryz.elStr strE_one rfl (.tmp 3) (.tmp 4) rfl rfl (Owned.empty (E := 9) strE_len w (Nat.le_refl _)) rfl (h.up (by (repeat' (first | (with_reducible exact Below.refl _ _) | (with_reducible assumption) | (with_reducible refine below_drewN ?_ _) | (with_reducible refine Below.drew ?_) | (with_reducible refine below_alloc ?_ _) | (with_reducible refine Below.alloc ?_ ?_ _) | (with_reducible refine Below.setCell ?_ ?_ _) | (with_reducible refine below_go ?_ (by with_reducible assumption)) | (with_reducible refine below_then (by with_reducible assumption) ?_ ?_) | go_size)))) hN ?_ (by decide) ?_ ?_; (focus (first | omega | (simp only [World.size_alloc]; done) | (simp only [World.size_alloc]; omega) | (simp; done) | (simp; omega))); (focus (first | omega | (simp only [World.size_alloc]; done) | (simp only [World.size_alloc]; omega) | (simp; done) | (simp; omega))); intro A2 c2 w2 ho2 hg2 hl2))))
  go_ret
  have hb := lit_app hg2
  rw [Nat.zero_add, List.nil_append] at ho2
  exact ⟨_, _, rfl, ho2, hb⟩
/-- Where x[1:] begins. -/
def tailOff (o s c : Nat) : Nat := if c = 1 then o else o + s
theorem Tryz.tailStrs (b o n c : Nat) (h1 : 1 ≤ n) (u : World) : (Instr.slice 22 (.slice (some ⟨b, o, none⟩) n c) (some (.int .i64 1)) none none).run Tryz.prog u = .ok (.slice (some ⟨b, tailOff o 1 c, none⟩) (n - 1) (c - 1)) u := by
  have e1 : Tryz.prog.underlying 22 = some (.slice (Tryz.prog.elem 22)) := by kernel_rfl
  have e2 : (sizeOf (Tryz.prog.elem 22)).run Tryz.prog u = .ok 1 u := by kernel_rfl
  rw [run_slice_l (P := Tryz.prog) (w := u) 22 (some ⟨b, o, none⟩) n c e1 .i64 1 (by omega) (by omega), e2]
  simp only [Result.andThen_ok, sliced, tailOff]
  by_cases hc : c = 1
  · rw [if_pos hc, if_pos (by omega)]; rfl
  · rw [if_neg hc, if_neg (by omega)]; rfl
theorem Recs.tail {α : Type} {e : α → List Value} {s : Nat} {w : World} {b o n c : Nat} {x : α} {l : List α} (h : Recs e s w (some ⟨b, o, none⟩) (x :: l)) (hn : l.length + 1 = n) (hc : n ≤ c) : Recs e s w (some ⟨b, tailOff o s c, none⟩) l := by
  by_cases h1 : c = 1
  · have : l = [] := List.eq_nil_of_length_eq_zero (by omega)
    subst this
    exact ⟨h.1, Rd.none_ _ _ _⟩
  · rw [tailOff, if_neg h1]
    have := h.part 1 (l.length + 1) (by omega) (by simp)
    rw [Nat.one_mul, List.drop_succ_cons, List.drop_zero, Nat.add_sub_cancel, List.take_of_length_le (Nat.le_refl _)] at this
    exact this
def slLen : Value → Nat
  | .slice _ n _ => n
  | _ => 0
theorem merge_left {x y : ByteArray} {a b : List ByteArray} (h : less y x = false) : List.merge (x :: a) (y :: b) leS = x :: List.merge a (y :: b) leS := by
  rw [List.cons_merge_cons_pos leS a b (by simp [leS, h])]
theorem merge_right {x y : ByteArray} {a b : List ByteArray} (h : less y x = true) : List.merge (x :: a) (y :: b) leS = y :: List.merge (x :: a) b leS := by
  rw [List.cons_merge_cons_neg leS a b (by simp [leS, h])]
set_option maxHeartbeats 2000000 in
set_option maxRecDepth 100000 in
theorem spec_l6Sort : ∀ (N : Nat) (A : Option Addr) (c : Nat) (l : List ByteArray) (w : World), l.length = N → Strs w A l → N ≤ 16000000 → (∀ s ∈ l, s.size ≤ 16777216) →
    Calls Tryz.prog 48 #[.slice A N c] w fun e w' => ∃ A' c' L, e = .returned (.slice A' N c') ∧ Owned strE 1 9 w' w.heap.size A' N c' L ∧ L.Perm l ∧ Srt L ∧ Below w.heap.size w w' := by
  intro N
  induction N using Nat.strongRecOn with
  | ind N ih =>
    intro A c l w hN h hz hs
    have HS := Lib.hid hs
    have IH := Lib.hid ih
    clear hs ih
    by_cases h2 : N < 2
    · have hsrt : Srt l := by
        match l, hN with
        | [], _ => exact List.Pairwise.nil
        | [x], _ => exact List.pairwise_singleton _ _
        | x :: y :: r, e => simp at e; omega
      go_in
      go_wp2_with fail
      refine (spec_l1OwnS hN h hz).mono ?_; rintro e w1 ⟨A1, c1, rfl, ho, hb1⟩
      go_wp2
      go_ret
      exact ⟨_, _, l, rfl, ho, List.Perm.refl _, hsrt, hb1⟩
    · subst hN
      obtain ⟨m, hm⟩ : ∃ m, m = l.length / 2 := ⟨_, rfl⟩
      have hm1 : 1 ≤ m := by omega
      have hm2 : m < l.length := by omega
      go_in
      go_wp2_with fail
      refine (spec_l1OwnS rfl h hz).mono ?_; rintro e w1 ⟨A1, c1, rfl, ho, hb1⟩
      obtain ⟨g, rfl, g0, g1, _, _⟩ := ho.at_ (by omega)
      go_wp2
      have hR := ho.recs
      have R1 : Hid (Strs w1.drew (some ⟨g, 0, none⟩) (l.take m)) := Lib.hid (by have := (hR.part 0 m (Nat.zero_le _) (by omega)).drew; simpa using this)
      have R2 : Hid (Strs w1 (some ⟨g, m, none⟩) (l.drop m)) := Lib.hid (by have := hR.part m l.length (by omega) (Nat.le_refl _); rw [Nat.mul_one, Nat.zero_add, List.take_of_length_le (by rw [List.length_drop]; omega)] at this; exact this)
      have T1 := Lib.hid (show (l.take m).length = m by rw [List.length_take]; omega)
      have T2 := Lib.hid (show (l.drop m).length = l.length - m by rw [List.length_drop])
      have hq : ((l.length : Int)).tdiv 2 = (m : Int) := by rw [Int.tdiv_eq_ediv_of_nonneg (by omega)]; omega
      have hw : IntKind.i64.wrap (m : Int) = (m : Int) := wrap_id (by omega)
      obtain ⟨hc1, hc2⟩ := ho.cap
      have hw2 : wrap64 (m : Int) = (m : Int) := by unfold wrap64; omega
      have hq2 : (l.length : Int) / 2 = (m : Int) := by omega
      have hle1 : (m : Int) ≤ (c1 : Int) := by omega
      have hle2 : (m : Int) ≤ (l.length : Int) := by omega
      have hle3 : (l.length : Int) ≤ (c1 : Int) := by omega
      have hne : ¬ c1 = m := by omega
      have hne2 : ¬ c1 - m = 0 := by omega
      clear hm
      go_region_held3 (fun u => True) (first | trivial) (first | (go_at_call 48; ((with_reducible refine (IH.out (l.length - m) (by omega) (some ⟨g, m, none⟩) (c1 - m) (l.drop m) _ T2.out (R2.out.up hb2) (by omega) (fun s hs => HS.out s (List.mem_of_mem_drop hs))).mono ?_); rintro e w3 ⟨A3, c3, L3, rfl, o3, p3, s3, hb3⟩)) | (go_at_call 48; refine (IH.out m (by omega) (some ⟨g, 0, none⟩) c1 (l.take m) _ T1.out R1.out (by omega) (fun s hs => HS.out s (List.mem_of_mem_take hs))).mono ?_; rintro e w2 ⟨A2, c2, L2, rfl, o2, p2, s2, hbd2⟩; have hb2 := below_of_drew hbd2))
      clear hw hw2 hq hq2
      have HM := Lib.hid (show (List.merge L2 L3 leS).Perm l from (merge_perm L2 L3).trans ((p2.append p3).trans (by rw [List.take_append_drop])))
      have HR := Lib.hid (merge_srt s2 s3)
      have o2' := o2.up hb3
      obtain ⟨c21, c22⟩ := o2.cap
      obtain ⟨c31, c32⟩ := o3.cap
      have hB3 := (below_go hb1 hb2)
      have hB3 := below_go hB3 hb3
      clear hbd2 p2 p3 s2 s3
      go_wp2
      go_loopw [4, 5, 6] (fun va vb vc wr => ∃ (Aa : Option Addr) (na ca : Nat) (la : List ByteArray) (Ab : Option Addr) (nb cb : Nat) (lb : List ByteArray) (A' : Option Addr) (m' c' : Nat) (M : List ByteArray), va = .slice Aa na ca ∧ vb = .slice Ab nb cb ∧ vc = .slice A' m' c' ∧ na ≤ ca ∧ nb ≤ cb ∧ ca ≤ 9223372036854775807 ∧ cb ≤ 9223372036854775807 ∧ m' + na + nb = l.length ∧ Hid (la.length = na) ∧ Hid (lb.length = nb) ∧ Hid (Strs w3 Aa la) ∧ Hid (Strs w3 Ab lb) ∧ Hid (Owned strE 1 9 wr w3.heap.size A' m' c' M) ∧ Hid (M ++ List.merge la lb leS = List.merge L2 L3 leS) ∧ Below w3.heap.size w3 wr) (fun va vb _ _ => slLen va + slLen vb)
      case atStart => exact ⟨_, m, c2, L2, _, l.length - m, c3, L3, none, 0, 0, [], rfl, rfl, rfl, by omega, by omega, by omega, by omega, by omega, Lib.hid o2.len, Lib.hid o3.len, Lib.hid o2'.recs, Lib.hid o3.recs, Lib.hid (Owned.nil strE_len _ _ _), Lib.hid (by simp), Below.refl _ _⟩
      case round =>
        obtain ⟨Aa, na, ca, la, Ab, nb, cb, lb, A', m', c', M, rfl, rfl, rfl, hna, hnb, hca, hcb, hsum, HLa, HLb, HA, HB, HO, HQ, hb⟩ := hrel
        have hsz := hb.size
        by_cases ha0 : na = 0
        · have HF := Lib.hid (show M ++ la ++ lb = List.merge L2 L3 leS by
            have : la = [] := List.eq_nil_of_length_eq_zero (by rw [HLa.out]; exact ha0)
            rw [← HQ.out, this, List.append_nil]; simp)
          have HS2 := Lib.hid hsum
          have hbd : m' + na + nb ≤ 16000000 := by omega
          have hI : ¬ (0 : Int) < (na : Int) := by omega
          clear ha0 hsum
          go_wp2_with (first | (at_builtin; ((refine wpList_append_recs Tryz.elStr strE_one rfl (.tmp 56) (.tmp 57) rfl rfl HO.out rfl (HA.out.below hb (Nat.le_refl _)) HLa.out ?_ (by decide) ?_ ?_; (focus (first | omega | (simp only [World.size_alloc]; done) | (simp only [World.size_alloc]; omega) | (simp; done) | (simp; omega))); (focus (first | omega | (simp only [World.size_alloc]; done) | (simp only [World.size_alloc]; omega) | (simp; done) | (simp; omega))); intro A4 c4 w4 ho4 hg4 hl4; have hb4 := hb.trans (grown_base hg4 hsz (fun k hk => (HO.out.blk hk).1)); have hsz4 := hb4.size))) | (at_builtin; go_must ((refine wpList_append_recs Tryz.elStr strE_one rfl (.tmp 58) (.tmp 59) rfl rfl ho4 rfl (HB.out.below hb4 (Nat.le_refl _)) HLb.out ?_ (by decide) ?_ ?_; (focus (first | omega | (simp only [World.size_alloc]; done) | (simp only [World.size_alloc]; omega) | (simp; done) | (simp; omega))); (focus (first | omega | (simp only [World.size_alloc]; done) | (simp only [World.size_alloc]; omega) | (simp; done) | (simp; omega))); intro A5 c5 w5 ho5 hg5 hl5))))
          have hb5 := hb4.trans (grown_base hg5 hsz4 (fun k hk => (ho4.blk hk).1))
          go_ret
          rw [HF.out, HS2.out] at ho5
          rw [HS2.out]
          exact ⟨_, _, rfl, _, ho5.base_le hB3.size, HM.out, HR.out, below_go hB3 hb5⟩
        · by_cases hb0 : nb = 0
          · have HF := Lib.hid (show M ++ la ++ lb = List.merge L2 L3 leS by
              have : lb = [] := List.eq_nil_of_length_eq_zero (by rw [HLb.out]; exact hb0)
              rw [← HQ.out, this, List.append_nil]; simp)
            have HS2 := Lib.hid hsum
            have hbd : m' + na + nb ≤ 16000000 := by omega
            have hI : (0 : Int) < (na : Int) := by omega
            have hJ : ¬ (0 : Int) < (nb : Int) := by omega
            clear ha0 hb0 hsum
            go_wp2_with (first | (at_builtin; ((refine wpList_append_recs Tryz.elStr strE_one rfl (.tmp 56) (.tmp 57) rfl rfl HO.out rfl (HA.out.below hb (Nat.le_refl _)) HLa.out ?_ (by decide) ?_ ?_; (focus (first | omega | (simp only [World.size_alloc]; done) | (simp only [World.size_alloc]; omega) | (simp; done) | (simp; omega))); (focus (first | omega | (simp only [World.size_alloc]; done) | (simp only [World.size_alloc]; omega) | (simp; done) | (simp; omega))); intro A4 c4 w4 ho4 hg4 hl4; have hb4 := hb.trans (grown_base hg4 hsz (fun k hk => (HO.out.blk hk).1)); have hsz4 := hb4.size))) | (at_builtin; go_must ((refine wpList_append_recs Tryz.elStr strE_one rfl (.tmp 58) (.tmp 59) rfl rfl ho4 rfl (HB.out.below hb4 (Nat.le_refl _)) HLb.out ?_ (by decide) ?_ ?_; (focus (first | omega | (simp only [World.size_alloc]; done) | (simp only [World.size_alloc]; omega) | (simp; done) | (simp; omega))); (focus (first | omega | (simp only [World.size_alloc]; done) | (simp only [World.size_alloc]; omega) | (simp; done) | (simp; omega))); intro A5 c5 w5 ho5 hg5 hl5))))
            have hb5 := hb4.trans (grown_base hg5 hsz4 (fun k hk => (ho4.blk hk).1))
            go_ret
            rw [HF.out, HS2.out] at ho5
            rw [HS2.out]
            exact ⟨_, _, rfl, _, ho5.base_le hB3.size, HM.out, HR.out, below_go hB3 hb5⟩
          · obtain ⟨x, la', hla⟩ : ∃ x la', la = x :: la' := by
              rcases la with _ | ⟨x, la'⟩
              · exact absurd HLa.out.symm ha0
              · exact ⟨x, la', rfl⟩
            obtain ⟨y, lb', hlb⟩ : ∃ y lb', lb = y :: lb' := by
              rcases lb with _ | ⟨y, lb'⟩
              · exact absurd HLb.out.symm hb0
              · exact ⟨y, lb', rfl⟩
            subst hla hlb
            obtain ⟨b1, o1, _, rfl, bb1, hx, hcx⟩ := (HA.out.below hb (Nat.le_refl _)).at_str (k := 0) (by simp)
            obtain ⟨b2, o2, _, rfl, bb2, hy, hcy⟩ := (HB.out.below hb (Nat.le_refl _)).at_str (k := 0) (by simp)
            simp at hx hy
            subst hx hy
            simp only [Nat.add_zero] at hcx hcy
            have t1 := Tryz.tailStrs b1 o1 na ca (by omega)
            have t2 := Tryz.tailStrs b2 o2 nb cb (by omega)
            rcases hl : less y x
            · have hl1 : Op.bytesLess y.toList x.toList = false := hl
              have hq1 := Lib.hid (merge_left (a := la') (b := lb') hl)
              clear hl t2
              go_wp2
              go_quiet (fail)
              go_wp2_with (first | (at_builtin; go_must ((refine wpList_append_rec Tryz.elStr rfl (.tmp 48) (.tmp 52) rfl rfl ((HO.out.drewN _).alloc _) x rfl (Box.at_ _ [.string x] _ ?_) (strE_one _) ?_ (by decide) ?_ ?_; (focus (first | omega | (simp only [World.size_alloc]; done) | (simp only [World.size_alloc]; omega) | (simp; done) | (simp; omega))); (focus (first | omega | (simp only [World.size_alloc]; done) | (simp only [World.size_alloc]; omega) | (simp; done) | (simp; omega))); (focus (first | omega | (simp only [World.size_alloc]; done) | (simp only [World.size_alloc]; omega) | (simp; done) | (simp; omega))); intro A4 c4 w4 ho4 hg4 hb4))))
              go_roundw
              case rel => exact ⟨some ⟨b1, tailOff o1 1 ca, none⟩, na - 1, ca - 1, la', some ⟨b2, o2, none⟩, nb, cb, y :: lb', A4, m' + 1, c4, M ++ [x], rfl, rfl, rfl, by omega, by omega, by omega, by omega, by omega, Lib.hid (by have := HLa.out; simp at this; omega), HLb, Lib.hid (HA.out.tail (by have := HLa.out; simpa using this) hna), HB, Lib.hid ho4, Lib.hid (by rw [← HQ.out, hq1.out, List.append_assoc]; rfl), ((below_drewN hb _).alloc (by simp; omega) _).trans hb4⟩
              case measure => simp [slLen]; omega
            · have hl1 : Op.bytesLess y.toList x.toList = true := hl
              have hq1 := Lib.hid (merge_right (a := la') (b := lb') hl)
              clear hl t1
              go_wp2
              go_quiet (fail)
              go_wp2_with (first | (at_builtin; go_must ((refine wpList_append_rec Tryz.elStr rfl (.tmp 40) (.tmp 44) rfl rfl ((HO.out.drewN _).alloc _) y rfl (Box.at_ _ [.string y] _ ?_) (strE_one _) ?_ (by decide) ?_ ?_; (focus (first | omega | (simp only [World.size_alloc]; done) | (simp only [World.size_alloc]; omega) | (simp; done) | (simp; omega))); (focus (first | omega | (simp only [World.size_alloc]; done) | (simp only [World.size_alloc]; omega) | (simp; done) | (simp; omega))); (focus (first | omega | (simp only [World.size_alloc]; done) | (simp only [World.size_alloc]; omega) | (simp; done) | (simp; omega))); intro A4 c4 w4 ho4 hg4 hb4))))
              go_roundw
              case rel => exact ⟨some ⟨b1, o1, none⟩, na, ca, x :: la', some ⟨b2, tailOff o2 1 cb, none⟩, nb - 1, cb - 1, lb', A4, m' + 1, c4, M ++ [y], rfl, rfl, rfl, by omega, by omega, by omega, by omega, by omega, HLa, Lib.hid (by have := HLb.out; simp at this; omega), HA, Lib.hid (HB.out.tail (by have := HLb.out; simpa using this) hnb), Lib.hid ho4, Lib.hid (by rw [← HQ.out, hq1.out, List.append_assoc]; rfl), ((below_drewN hb _).alloc (by simp; omega) _).trans hb4⟩
              case measure => simp [slLen]; omega
end Go.Proofs.YtmdmnjjlpefigaaGreat
/-
  DERIVED: THE SHELF's CONTRACTS AT THIS DUMP, IN PLAIN WORDS (tools/lay-plain.mjs out of 'YtmdmnjjlpefigaaGreatShelfb.lean', which tools/lay-shelf.mjs wrote): THE SAME DECLARATIONS UNDER THE SAME NAMES: 'import', 'namespace', 'open', 'def', 'theorem' AND NOTHING ELSE: no command of the shelf's: FOR A HAND-IN. Each laying: the table of numbers ('.._ren') and one theorem, a field a fact of the dump's own or the kernel's comparison; each contract: ONE APPLICATION.
-/
namespace Go.Proofs
open Go.Shelf
def Tryz.laysNm226_ren : Go.Shelf.Ren := ⟨fun | 26 => 27 | 33 => 40 | 34 => 41 | 38 => 58 | n => n, fun | 24 => 22 | 9 => 9 | 3 => 3 | 4 => 4 | 40 => 65 | 0 => 0 | n => n, fun | n => n⟩
theorem Tryz.laysNm226 : Go.Proofs.Lays2.n26 Tryz.prog Tryz.laysNm226_ren := {
  mixed := by kernel_rfl
  f26 := Tryz.func27.trans (congrArg some (by kernel_rfl))
  f33 := Tryz.func40.trans (congrArg some (by kernel_rfl))
  f34 := Tryz.func41.trans (congrArg some (by kernel_rfl))
  f38 := Tryz.func58.trans (congrArg some (by kernel_rfl))
  t0 := Tryz.underlying0
  a0 := Tryz.isAgg0
  z0 := Tryz.sizeOf0
  v0 := Tryz.zeroValue0
  t3 := Tryz.underlying3
  a3 := Tryz.isAgg3
  z3 := Tryz.sizeOf3
  v3 := Tryz.zeroValue3
  t4 := Tryz.underlying4
  a4 := Tryz.isAgg4
  z4 := Tryz.sizeOf4
  v4 := Tryz.zeroValue4
  t9 := Tryz.underlying9
  a9 := Tryz.isAgg9
  z9 := Tryz.sizeOf9
  v9 := Tryz.zeroValue9
  t24 := Tryz.underlying22
  a24 := Tryz.isAgg22
  z24 := Tryz.sizeOf22
  v24 := Tryz.zeroValue22
  t40 := Tryz.underlying65
  a40 := Tryz.isAgg65
  z40 := Tryz.sizeOf65
  v40 := Tryz.zeroValue65 }
theorem Tryz.slices_BinarySearch_string (b off n c : Nat) (Sx : Nat → ByteArray) (x : ByteArray) (w : World) (hbig : n < 4611686018427387904) (hc : ∀ j, j < n → w.cell? ⟨b, off + j, none⟩ = some (.string (Sx j))) :
    Calls Tryz.prog 27 #[.slice (some ⟨b, off, none⟩) n c, .string x] w fun e w' =>
      e = .returned (.tuple #[.int .i64 (Lib.bsGo (fun t => Op.bytesLess (Sx t).toList x.toList) n 0 n : Nat), .bool (decide (Lib.bsGo (fun t => Op.bytesLess (Sx t).toList x.toList) n 0 n < n ∧ Sx (Lib.bsGo (fun t => Op.bytesLess (Sx t).toList x.toList) n 0 n) = x))]) ∧ ∃ q, w' = w.drewN q := Any2.slices_BinarySearch_string Tryz.laysNm226 b off n c Sx x w hbig hc
theorem Tryz.slices_BinarySearch_string_empty (a : Option Addr) (c : Nat) (x : ByteArray) (w : World) :
    Calls Tryz.prog 27 #[.slice a 0 c, .string x] w fun e w' => e = .returned (.tuple #[.int .i64 0, .bool false]) ∧ w' = w := Any2.slices_BinarySearch_string_empty Tryz.laysNm226 a c x w
end Go.Proofs
/- The walks of chapter 17: the inverse of a row, both sides; a row's search. -/
namespace Go.Proofs.YtmdmnjjlpefigaaGreat
set_option linter.unusedVariables false
set_option linter.unusedSimpArgs false
open Go.ChangeShapes Go.WideShapes Go.ChangeAt Go.RowKit Go.Deep
theorem bytes_ne {y s : ByteArray} (h : ¬ y = s) : (y.toList == s.toList) = false := by
  rw [beq_eq_false_iff_ne]; exact fun e => h (toList_inj e)
theorem turn_set {a : ByteArray} {m : List Int} {k q : Nat} (h : goodRow a = true) (hk : k < a.size) (hq : (PlainAid.bt a k - 49).toNat = q) (hm : m.length = a.size) (hu : ∀ i, i < k → m[(PlainAid.bt a i - 49).toNat]? = some (49 + (i : Int))) :
    ∀ i, i < k + 1 → (m.set q (49 + (k : Int)))[(PlainAid.bt a i - 49).toNat]? = some (49 + (i : Int)) := fun i hi => by
  have hr := row_at h hk
  by_cases e : i = k
  · subst e
    rw [hq, List.getElem?_set_self (by omega)]
  · have hri := row_at h (i := i) (by omega)
    have hne : q ≠ (PlainAid.bt a i - 49).toNat := fun e2 => e (row_inj h (i := i) (j := k) (by omega) hk (by omega))
    rw [List.getElem?_set_ne hne]
    exact hu i (by omega)
set_option maxRecDepth 100000 in
theorem impl_turned {a : ByteArray} {w : World} (hg : goodRow a = true) :
    Calls Tryz.prog 37 #[.string a] w fun e w' => e = .returned (.string (turnS a)) ∧ Below w.heap.size w w' ∧ RowN a.size (turnS a) := by
  have hba := PlainAid.get_bt a
  have hn := goodRow_n hg
  have hn1 : 3 ≤ a.size := hn.1
  have hn2 : a.size ≤ 8 := hn.2
  clear hn
  have HG := Lib.hid hg
  have hmk := run_make_rec (e := byteE) Tryz.elU8 0 rfl a.size (by omega) (by decide)
  have hr0 : Hid (BRow (w.alloc (.cells (madeCells (byteE 0).toArray (a.size * 1)) 5)) w.heap.size (List.replicate a.size 0)) := Lib.hid (BRow.of_owned (Owned.made (e := byteE) (s := 1) byteE_len w 5 0 a.size (by omega) (Nat.le_refl _)))
  have hb0 : Below w.heap.size w (w.alloc (.cells (madeCells (byteE 0).toArray (a.size * 1)) 5)) := by (repeat' (first | (with_reducible exact Below.refl _ _) | (with_reducible assumption) | (with_reducible refine below_drewN ?_ _) | (with_reducible refine Below.drew ?_) | (with_reducible refine below_alloc ?_ _) | (with_reducible refine Below.alloc ?_ ?_ _) | (with_reducible refine Below.setCell ?_ ?_ _) | (with_reducible refine below_go ?_ (by with_reducible assumption)) | (with_reducible refine below_then (by with_reducible assumption) ?_ ?_) | go_size))
  clear hg
  rw [Nat.mul_one] at hr0 hb0 hmk
  go_in
  go_wp2
  clear hmk
  go_loopw [10] (fun i wr => ∃ (k : Nat) (m : List Int), k ≤ a.size ∧ i = .int .i64 k ∧ Hid (∀ j, j < k → m[(PlainAid.bt a j - 49).toNat]? = some (49 + (j : Int))) ∧ m.length = a.size ∧ Hid (BRow wr w.heap.size m) ∧ Below w.heap.size w wr) (fun i _ => a.size - (intOf i).toNat)
  case atStart => exact ⟨0, _, Nat.zero_le _, rfl, Lib.hid (fun j hj => absurd hj (by omega)), by simp, hr0, hb0⟩
  case round =>
    obtain ⟨k, m, hk, rfl, HM, hml, HR, hb⟩ := hrel
    by_cases hlt : k < a.size
    · have hr := row_at HG.out hlt
      obtain ⟨q, hq⟩ : ∃ q : Nat, PlainAid.bt a k = (q : Int) + 49 := ⟨(PlainAid.bt a k - 49).toNat, by omega⟩
      have hqa : q < a.size := by omega
      have hq6 : q % 256 = q := by omega
      have hq1 : PlainAid.bt a k - 49 = (q : Int) := by omega
      have hq2 : (PlainAid.bt a k - 49).toNat = q := by omega
      have d1 := HR.out.2.1 q _ (List.getElem?_eq_getElem (by omega))
      have f1 := HR.out.2.2 q (by omega)
      have hR2 := Lib.hid (HR.out.set (k := q) (by omega) (49 + (k : Int)))
      have HS := Lib.hid (turn_set HG.out hlt hq2 hml HM.out)
      go_wp2
      go_roundw
      case rel => exact ⟨k + 1, m.set q (49 + (k : Int)), by omega, by go_num, HS, by rw [List.length_set]; exact hml, hR2, by (repeat' (first | (with_reducible exact Below.refl _ _) | (with_reducible assumption) | (with_reducible refine below_drewN ?_ _) | (with_reducible refine Below.drew ?_) | (with_reducible refine below_alloc ?_ _) | (with_reducible refine Below.alloc ?_ ?_ _) | (with_reducible refine Below.setCell ?_ ?_ _) | (with_reducible refine below_go ?_ (by with_reducible assumption)) | (with_reducible refine below_then (by with_reducible assumption) ?_ ?_) | go_size))⟩
      case measure => simp [intOf]; omega
    · obtain rfl : k = a.size := by omega
      have ht := HR.out.text (P := Tryz.prog) (src := 70) (e := 5) (dst := 9) a.size a.size hml Tryz.underlying70 Tryz.underlying5 Tryz.underlying9
      have hT : TurnOf a m := ⟨hml, HM.out⟩
      have hR := turn_row HG.out hT
      rw [← turn_eq HG.out hT] at ht
      have HRR := Lib.hid hR
      clear hT hR
      go_wp2
      go_ret
      exact ⟨rfl, hb, HRR.out⟩
set_option maxRecDepth 100000 in
theorem spec_l1Turn {a : ByteArray} {w : World} (hg : goodRow a = true) :
    Calls Tryz.prog 31 #[.string a] w fun e w' => e = .returned (.string (turnS a)) ∧ Below w.heap.size w w' ∧ RowN a.size (turnS a) := by
  have hcv := run_bytes (P := Tryz.prog) (src := 9) (dst := 70) (e := 5) a Tryz.underlying9 Tryz.underlying70 Tryz.underlying5
  have hn := goodRow_n hg
  have hn1 : 3 ≤ a.size := hn.1
  have hn2 : a.size ≤ 8 := hn.2
  have ha : a.size ≤ 16777216 := by omega
  clear hn
  have HG := Lib.hid hg
  clear hg
  go_in
  go_wp2
  have hr0 := Lib.hid (bytesW_row w 5 a)
  have hb0 := bytesW_below w 5 a
  have hl0 := nums_len a
  clear hcv
  generalize grownCap w a.size 0 5 = cc
  go_loopw [4] (fun i wr => ∃ (k : Nat) (m : List Int), k ≤ a.size ∧ i = .int .i64 (k + 1 : Nat) ∧ Hid (∀ j, j < k → m[(PlainAid.bt a j - 49).toNat]? = some (49 + (j : Int))) ∧ m.length = a.size ∧ Hid (BRow wr w.heap.size m) ∧ Below w.heap.size w wr) (fun i _ => a.size + 1 - (intOf i).toNat)
  case atStart => exact ⟨0, _, Nat.zero_le _, rfl, Lib.hid (fun j hj => absurd hj (by omega)), hl0, hr0, hb0⟩
  case round =>
    obtain ⟨k, m, hk, rfl, HM, hml, HR, hb⟩ := hrel
    by_cases hlt : k < a.size
    · have hr := row_at HG.out hlt
      obtain ⟨q, hq⟩ : ∃ q : Nat, PlainAid.bt a k = (q : Int) + 49 := ⟨(PlainAid.bt a k - 49).toNat, by omega⟩
      have hqa : q < a.size := by omega
      have hq2 : (PlainAid.bt a k - 49).toNat = q := by omega
      have hq3 : PlainAid.bt a k - 48 = (q : Int) + 1 := by omega
      have h48 : 48 ≤ PlainAid.bt a k := by omega
      have d1 := HR.out.2.1 q _ (List.getElem?_eq_getElem (by omega))
      have f1 := HR.out.2.2 q (by omega)
      have hR2 := Lib.hid (HR.out.set (k := q) (by omega) (48 + ((k : Int) + 1)))
      have HS := Lib.hid (turn_set HG.out hlt hq2 hml HM.out)
      have he : (48 : Int) + ((k : Int) + 1) = 49 + (k : Int) := by omega
      have HE := Lib.hid he
      clear he
      go_wp2_with (first | (go_at_call 44; refine (spec_l1At hlt ha h48).mono ?_; rw [hq3]; rintro e w' ⟨rfl, rfl⟩))
      go_roundw
      case rel => exact ⟨k + 1, m.set q (48 + ((k : Int) + 1)), by omega, by go_num, Lib.hid (by rw [HE.out]; exact HS.out), by rw [List.length_set]; exact hml, hR2, by (repeat' (first | (with_reducible exact Below.refl _ _) | (with_reducible assumption) | (with_reducible refine below_drewN ?_ _) | (with_reducible refine Below.drew ?_) | (with_reducible refine below_alloc ?_ _) | (with_reducible refine Below.alloc ?_ ?_ _) | (with_reducible refine Below.setCell ?_ ?_ _) | (with_reducible refine below_go ?_ (by with_reducible assumption)) | (with_reducible refine below_then (by with_reducible assumption) ?_ ?_) | go_size))⟩
      case measure => simp [intOf]; omega
    · obtain rfl : k = a.size := by omega
      have ht := HR.out.text (P := Tryz.prog) (src := 70) (e := 5) (dst := 9) a.size cc hml Tryz.underlying70 Tryz.underlying5 Tryz.underlying9
      have hT : TurnOf a m := ⟨hml, HM.out⟩
      have hR := turn_row HG.out hT
      rw [← turn_eq HG.out hT] at ht
      have HRR := Lib.hid hR
      clear hT hR
      go_wp2
      go_ret
      exact ⟨rfl, hb, HRR.out⟩
set_option maxRecDepth 100000 in
theorem spec_l1HasS {A : Option Addr} {N c : Nat} {l : List ByteArray} {s : ByteArray} {w : World} (hN : l.length = N) (h : Strs w A l) (hz : N ≤ 16777216) :
    Calls Tryz.prog 15 #[.slice A N c, .string s] w fun e w' => e = .returned (.bool (inL l s)) ∧ w = w' := by
  subst hN
  go_in
  go_wp2
  go_loopw [9] (fun i wr => ∃ k : Nat, k ≤ l.length ∧ i = .int .i64 k ∧ Hid (∀ j, j < k → l[j]? ≠ some s) ∧ w = wr) (fun i _ => l.length - (intOf i).toNat)
  case atStart => exact ⟨0, Nat.zero_le _, rfl, Lib.hid (fun j hj => absurd hj (by omega)), rfl⟩
  case round =>
    obtain ⟨k, hk, rfl, HK, rfl⟩ := hrel
    by_cases hlt : k < l.length
    · obtain ⟨b1, o1, y, rfl, hbb, hy, hcy⟩ := h.at_str hlt
      by_cases hys : y = s
      · have e0 := Lib.hid (show inL l s = true from inL_iff.2 (by rw [← hys]; exact List.mem_of_getElem? hy))
        clear hy h
        go_wp2
        go_ret
        exact ⟨ret_bool e0.out.symm, rfl⟩
      · have HK2 := Lib.hid (show ∀ j, j < k + 1 → l[j]? ≠ some s from fun j hj => by
          rcases Nat.lt_or_ge j k with h1 | h1
          · exact HK.out j h1
          · obtain rfl : j = k := by omega
            rw [hy]; intro e; injection e with e; exact hys e)
        have hne := bytes_ne hys
        clear hy h
        go_wp2
        go_roundw
        case rel => exact ⟨k + 1, by omega, by go_num, HK2, trivial⟩
        case measure => simp [intOf]; omega
    · obtain rfl : k = l.length := by omega
      have e0 := Lib.hid (show inL l s = false by
        rcases hc : inL l s with _ | _
        · rfl
        · obtain ⟨j, hj⟩ := List.getElem?_of_mem (inL_iff.1 hc)
          exact absurd hj (HK.out j (List.getElem?_eq_some_iff.1 hj).1))
      go_wp2
      go_ret
      exact ⟨ret_bool e0.out.symm, rfl⟩
end Go.Proofs.YtmdmnjjlpefigaaGreat
/-
  DERIVED: THE SHELF's CONTRACTS AT THIS DUMP, IN PLAIN WORDS (tools/lay-plain.mjs out of 'YtmdmnjjlpefigaaGreatShelf.lean', which tools/lay-shelf.mjs wrote): THE SAME DECLARATIONS UNDER THE SAME NAMES: 'import', 'namespace', 'open', 'def', 'theorem' AND NOTHING ELSE: no command of the shelf's: FOR A HAND-IN. Each laying: the table of numbers ('.._ren') and one theorem, a field a fact of the dump's own or the kernel's comparison; each contract: ONE APPLICATION.
-/
namespace Go.Proofs
open Go.Shelf
def Tryz.lays190_ren : Go.Shelf.Ren := ⟨fun | 190 => 54 | 125 => 74 | 258 => 73 | 128 => 88 | 129 => 89 | 302 => 80 | 303 => 81 | 304 => 82 | 305 => 83 | 306 => 84 | 307 => 85 | 308 => 40 | 309 => 86 | 310 => 87 | 333 => 94 | 329 => 95 | 330 => 96 | 334 => 97 | 335 => 98 | 336 => 58 | 344 => 100 | n => n, fun | 31 => 22 | 9 => 9 | 3 => 3 | 46 => 65 | 0 => 0 | 51 => 103 | 53 => 105 | 4 => 4 | 183 => 97 | 182 => 96 | 131 => 54 | 5 => 5 | 218 => 108 | 222 => 112 | 228 => 115 | 229 => 116 | n => n, fun | n => n⟩
theorem Tryz.lays190 : Go.Proofs.Lays.n190 Tryz.prog Tryz.lays190_ren := {
  mixed := by kernel_rfl
  f125 := Tryz.func74.trans (congrArg some (by kernel_rfl))
  f128 := Tryz.func88.trans (congrArg some (by kernel_rfl))
  f129 := Tryz.func89.trans (congrArg some (by kernel_rfl))
  f190 := Tryz.func54.trans (congrArg some (by kernel_rfl))
  f258 := Tryz.func73.trans (congrArg some (by kernel_rfl))
  f302 := Tryz.func80.trans (congrArg some (by kernel_rfl))
  f303 := Tryz.func81.trans (congrArg some (by kernel_rfl))
  f304 := Tryz.func82.trans (congrArg some (by kernel_rfl))
  f305 := Tryz.func83.trans (congrArg some (by kernel_rfl))
  f306 := Tryz.func84.trans (congrArg some (by kernel_rfl))
  f307 := Tryz.func85.trans (congrArg some (by kernel_rfl))
  f308 := Tryz.func40.trans (congrArg some (by kernel_rfl))
  f309 := Tryz.func86.trans (congrArg some (by kernel_rfl))
  f310 := Tryz.func87.trans (congrArg some (by kernel_rfl))
  f329 := Tryz.func95.trans (congrArg some (by kernel_rfl))
  f330 := Tryz.func96.trans (congrArg some (by kernel_rfl))
  f333 := Tryz.func94.trans (congrArg some (by kernel_rfl))
  f334 := Tryz.func97.trans (congrArg some (by kernel_rfl))
  f335 := Tryz.func98.trans (congrArg some (by kernel_rfl))
  f336 := Tryz.func58.trans (congrArg some (by kernel_rfl))
  f344 := Tryz.func100.trans (congrArg some (by kernel_rfl))
  t0 := Tryz.underlying0
  a0 := Tryz.isAgg0
  z0 := Tryz.sizeOf0
  v0 := Tryz.zeroValue0
  t3 := Tryz.underlying3
  a3 := Tryz.isAgg3
  z3 := Tryz.sizeOf3
  v3 := Tryz.zeroValue3
  t4 := Tryz.underlying4
  a4 := Tryz.isAgg4
  z4 := Tryz.sizeOf4
  v4 := Tryz.zeroValue4
  t5 := Tryz.underlying5
  a5 := Tryz.isAgg5
  z5 := Tryz.sizeOf5
  v5 := Tryz.zeroValue5
  t9 := Tryz.underlying9
  a9 := Tryz.isAgg9
  z9 := Tryz.sizeOf9
  v9 := Tryz.zeroValue9
  t31 := Tryz.underlying22
  a31 := Tryz.isAgg22
  z31 := Tryz.sizeOf22
  v31 := Tryz.zeroValue22
  t46 := Tryz.underlying65
  a46 := Tryz.isAgg65
  z46 := Tryz.sizeOf65
  v46 := Tryz.zeroValue65
  t51 := Tryz.underlying103
  a51 := Tryz.isAgg103
  z51 := Tryz.sizeOf103
  v51 := Tryz.zeroValue103
  t53 := Tryz.underlying105
  a53 := Tryz.isAgg105
  z53 := Tryz.sizeOf105
  v53 := Tryz.zeroValue105
  t131 := Tryz.underlying54
  a131 := Tryz.isAgg54
  z131 := Tryz.sizeOf54
  v131 := Tryz.zeroValue54
  t182 := Tryz.underlying96
  a182 := Tryz.isAgg96
  z182 := Tryz.sizeOf96
  v182 := Tryz.zeroValue96
  t183 := Tryz.underlying97
  a183 := Tryz.isAgg97
  z183 := Tryz.sizeOf97
  v183 := Tryz.zeroValue97
  t218 := Tryz.underlying108
  a218 := Tryz.isAgg108
  z218 := Tryz.sizeOf108
  v218 := Tryz.zeroValue108
  t222 := Tryz.underlying112
  a222 := Tryz.isAgg112
  z222 := Tryz.sizeOf112
  v222 := Tryz.zeroValue112
  t228 := Tryz.underlying115
  a228 := Tryz.isAgg115
  z228 := Tryz.sizeOf115
  v228 := Tryz.zeroValue115
  t229 := Tryz.underlying116
  a229 := Tryz.isAgg116
  z229 := Tryz.sizeOf116
  v229 := Tryz.zeroValue116 }
open Go.Sort Go.RowKit in
theorem Tryz.slices_Sort_string (blk off cap : Nat) (ss : List (List UInt8)) (w : World) (hH : Holds encStr w blk off ss.toArray) (hblk : blk < w.heap.size) (hsz : ss.length < 4611686018427387904) :
    Calls Tryz.prog 54 #[.slice (some ⟨blk, off, none⟩) ss.length cap] w fun e w' =>
      e = .returned (.tuple #[]) ∧ ∃ n os, w' = grow (putRow encStr (Sort.ahead w n) blk off (ss.mergeSort fun x y => decide (x ≤ y)).toArray) os := Any.slices_Sort_string Tryz.lays190 blk off cap ss w hH hblk hsz
end Go.Proofs
/- The library's sort of a row of texts of the call's own: the same row, the same texts, in order. -/
namespace Go.Proofs.YtmdmnjjlpefigaaGreat
set_option linter.unusedVariables false
set_option linter.unusedSimpArgs false
open Go.ChangeShapes Go.WideShapes Go.ChangeAt Go.RowKit Go.Deep
theorem bytes_lt : ∀ a b : List UInt8, Op.bytesLess a b = decide (a < b)
  | [], [] => by simp [Op.bytesLess]
  | [], _ :: _ => by simp [Op.bytesLess]
  | _ :: _, [] => by simp [Op.bytesLess]
  | x :: a, y :: b => by
    rw [Op.bytesLess, bytes_lt a b]
    simp only [List.cons_lt_cons_iff]
    rcases Nat.lt_trichotomy x.toNat y.toNat with h | h | h
    · have h1 : x < y := h
      simp [h1]
    · have h1 : x = y := UInt8.toNat_inj.1 h
      subst h1; simp
    · have h1 : ¬ x < y := fun q => Nat.lt_asymm h q
      have h2 : ¬ x = y := fun q => by subst q; exact Nat.lt_irrefl _ h
      simp [h1, h2]
theorem ba_list (s : ByteArray) : (⟨s.data.toList.toArray⟩ : ByteArray) = s := by cases s; simp
theorem le_leS {x y : List UInt8} (h : decide (x ≤ y) = true) : leS ⟨x.toArray⟩ ⟨y.toArray⟩ = true := by
  rw [leS, less, ByteArray.toList_eq, ByteArray.toList_eq, bytes_lt]
  simpa using h
theorem sort_strs {g n c base : Nat} {l : List ByteArray} {w : World} (ho : Owned strE 1 9 w base (some ⟨g, 0, none⟩) n c l) (hn : n ≤ 16777216) :
    Calls Tryz.prog 54 #[.slice (some ⟨g, 0, none⟩) n c] w fun e w' => e = .returned (.tuple #[]) ∧ ∃ L, Owned strE 1 9 w' base (some ⟨g, 0, none⟩) n c L ∧ L.Perm l ∧ Srt L ∧ w.grownBy w' (some g) := by
  obtain ⟨he, hl, _, hv⟩ := ho
  rcases hv with ⟨h0, _⟩ | ⟨g', c', cur, hv, hbase, hb, h1, h2, h3, h4⟩
  · cases h0
  cases hv
  obtain ⟨ss, hss⟩ : ∃ ss, ss = l.map fun s : ByteArray => s.data.toList := ⟨_, rfl⟩
  have hlen : ss.length = n := by rw [hss, List.length_map, hl]
  have hE : ∀ m : List ByteArray, m.flatMap strE = (m.map fun s : ByteArray => s.data.toList).map encStr := fun m => by
    rw [show strE = fun s => [Value.string s] from rfl, flatMap_one, List.map_map]
    exact List.map_congr_left fun s _ => by simp [encStr, ba_list]
  have hH : Sort.Holds encStr w g 0 ss.toArray := holds_of_block hb (by rw [hlen, hss, ← hE]; simpa using h4)
  have hc := Tryz.slices_Sort_string g 0 c ss w hH (Array.getElem?_eq_some_iff.1 hb).1 (by omega)
  rw [hlen] at hc
  refine hc.mono ?_
  rintro e w' ⟨rfl, k, os, rfl⟩
  refine ⟨rfl, (ss.mergeSort fun x y => decide (x ≤ y)).map fun x => (⟨x.toArray⟩ : ByteArray), ?_, ?_, ?_, grownBy_sorted _⟩
  · have hr := ownsRow_sorted (n := k) (os := os) (ss := ss) (ts := ss.mergeSort fun x y => decide (x ≤ y)) (by simp) hbase hb (by rw [hlen]; exact h1) h2 h3
    rw [hlen] at hr
    refine ⟨he, by simp [hlen], ?_⟩
    have e2 : ((ss.mergeSort fun x y => decide (x ≤ y)).map fun x : List UInt8 => (⟨x.toArray⟩ : ByteArray)).map (fun s : ByteArray => s.data.toList) = ss.mergeSort fun x y => decide (x ≤ y) := by
      rw [List.map_map, List.map_congr_left (g := id) (fun x _ => by simp)]; simp
    rw [hE, e2]
    exact hr
  · have hp : (ss.mergeSort fun x y => decide (x ≤ y)).Perm ss := List.mergeSort_perm _ _
    have hq := hp.map fun x => (⟨x.toArray⟩ : ByteArray)
    rw [hss, List.map_map] at hq
    have e1 : l.map ((fun x : List UInt8 => (⟨x.toArray⟩ : ByteArray)) ∘ fun s : ByteArray => s.data.toList) = l := by
      rw [List.map_congr_left (g := id) (fun s _ => by exact ba_list s)]; simp
    rw [e1] at hq
    rw [hss]; exact hq
  · have hs := List.pairwise_mergeSort (le := fun x y : List UInt8 => decide (x ≤ y)) (fun a b c h1 h2 => by simp at h1 h2 ⊢; exact List.le_trans h1 h2) (fun a b => by simp; exact List.le_total a b) ss
    rw [Srt, List.pairwise_map]
    exact hs.imp fun h => le_leS h
end Go.Proofs.YtmdmnjjlpefigaaGreat
/- All changes of a stage as plain functions. -/
namespace Go.Proofs.YtmdmnjjlpefigaaGreat
set_option linter.unusedVariables false
set_option linter.unusedSimpArgs false
open Go.ChangeShapes Go.WideShapes Go.ChangeAt Go.RowKit Go.Deep
/-- All ways to go on from place p with k places left: the places that stay. -/
def fromK : Nat → Nat → List (List Int)
  | _, 0 => [[]]
  | p, 1 => [[(p : Int)]]
  | p, k + 2 => (fromK (p + 1) (k + 1)).map (fun r => (p : Int) :: r) ++ fromK (p + 2) k
def fibK : Nat → Nat
  | 0 => 1
  | 1 => 1
  | k + 2 => fibK (k + 1) + fibK k
theorem fromK_len : ∀ (k p : Nat), (fromK p k).length = fibK k
  | 0, _ => rfl
  | 1, _ => rfl
  | k + 2, p => by rw [fromK, List.length_append, List.length_map, fromK_len (k + 1), fromK_len k, fibK]
theorem fib_le : ∀ k, k < 9 → fibK k ≤ 34 := of_decide_eq_true (by kernel_rfl)
theorem fromK_le {k : Nat} (h : k ≤ 8) (p : Nat) : (fromK p k).length ≤ 34 := by rw [fromK_len]; exact fib_le k (by omega)
theorem fromK_row : ∀ (k p : Nat), ∀ r ∈ fromK p k, r.length ≤ k ∧ ∀ x ∈ r, (p : Int) ≤ x ∧ x < (p : Int) + k
  | 0, p, r, h => by
    simp only [fromK, List.mem_singleton] at h
    subst h; exact ⟨Nat.le_refl _, fun x hx => by cases hx⟩
  | 1, p, r, h => by
    simp only [fromK, List.mem_singleton] at h
    subst h
    refine ⟨Nat.le_refl _, fun x hx => ?_⟩
    rw [List.mem_singleton.1 hx]; omega
  | k + 2, p, r, h => by
    rw [fromK, List.mem_append, List.mem_map] at h
    rcases h with ⟨q, hq, rfl⟩ | h
    · have ih := fromK_row (k + 1) (p + 1) q hq
      refine ⟨by rw [List.length_cons]; omega, fun x hx => ?_⟩
      rcases List.mem_cons.1 hx with rfl | hx
      · omega
      · have := ih.2 x hx; omega
    · have ih := fromK_row k (p + 2) r h
      exact ⟨by omega, fun x hx => by have := ih.2 x hx; omega⟩
/-- A digit. -/
def dig1 (x : Int) : ByteArray := strOfNums [48 + x]
/-- The text of some places. -/
def placesS (l : List Int) : ByteArray := strOfNums (l.map fun x => 48 + x)
theorem placesS_snoc (l : List Int) (x : Int) : placesS (l ++ [x]) = placesS l ++ dig1 x := by
  rw [placesS, placesS, dig1, strOf_append, List.map_append]; rfl
theorem placesS_size (l : List Int) : (placesS l).size = l.length := by rw [placesS, strOfNums_size, List.length_map]
def ofPl (l : List Int) : ByteArray := if l.length = 0 then ⟨#[45]⟩ else placesS l
theorem ofPl_0 {l : List Int} (h : l.length = 0) : ofPl l = ⟨#[45]⟩ := by rw [ofPl, if_pos h]
theorem ofPl_pos {l : List Int} (h : 0 < l.length) : ofPl l = placesS l := by rw [ofPl, if_neg (by omega)]
theorem ofPl_size {l : List Int} (h : l.length ≤ 8) : (ofPl l).size ≤ 8 := by
  by_cases h0 : l.length = 0
  · rw [ofPl_0 h0]; decide
  · rw [ofPl_pos (by omega), placesS_size]; exact h
/-- The changes of stage n, in the order in which their places are told. -/
def chsRaw (n : Nat) : List ByteArray := ((fromK 1 n).map ofPl).filter fun c => goodChange n c
end Go.Proofs.YtmdmnjjlpefigaaGreat
/- The change between two rows: the program's way and the reference's agree on whether there is one. -/
namespace Go.Proofs.YtmdmnjjlpefigaaGreat
set_option linter.unusedVariables false
set_option linter.unusedSimpArgs false
open Go.ChangeShapes Go.WideShapes Go.ChangeAt Go.RowKit Go.Deep
/-- From which places the bytes come, k places left from place i on, ps the places (from 1) that stay. -/
def idxK : Nat → Nat → List Int → List Nat
  | _, 0, _ => []
  | i, 1, _ => [i]
  | i, k + 2, ps => match ps with
    | [] => (i + 1) :: i :: idxK (i + 2) k []
    | x :: r => if x = (i : Int) + 1 then i :: idxK (i + 1) (k + 1) r else (i + 1) :: i :: idxK (i + 2) k (x :: r)
theorem idx_stay (i k : Nat) (r : List Int) : idxK i (k + 2) (((i : Int) + 1) :: r) = i :: idxK (i + 1) (k + 1) r := by rw [idxK, if_pos rfl]
theorem idx_swap {i k : Nat} {ps : List Int} (h : ∀ x ∈ ps, (i : Int) + 1 < x) : idxK i (k + 2) ps = (i + 1) :: i :: idxK (i + 2) k ps := by
  rcases ps with _ | ⟨x, r⟩
  · rw [idxK]
  · rw [idxK, if_neg (by have := h x (List.mem_cons_self ..); omega)]
theorem idxK_len : ∀ (k i : Nat) (ps : List Int), (idxK i k ps).length = k
  | 0, _, _ => rfl
  | 1, _, _ => rfl
  | k + 2, i, [] => by rw [idxK, List.length_cons, List.length_cons, idxK_len k]
  | k + 2, i, x :: r => by
    rw [idxK]
    split
    · rw [List.length_cons, idxK_len (k + 1)]
    · rw [List.length_cons, List.length_cons, idxK_len k]
/-- The program's way: k places left, i done, whether a pair has been swapped. -/
def btwK (a b : ByteArray) : Nat → Nat → Bool → Bool
  | 0, _, sw => sw
  | 1, i, sw => if PlainAid.bt a i = PlainAid.bt b i then sw else false
  | k + 2, i, sw => if PlainAid.bt a i = PlainAid.bt b i then btwK a b (k + 1) (i + 1) sw else
      if PlainAid.bt a i = PlainAid.bt b (i + 1) ∧ PlainAid.bt a (i + 1) = PlainAid.bt b i then btwK a b k (i + 2) true else false
def fromIdx (a b : ByteArray) (i k : Nat) (ps : List Int) : Prop := ∀ j, j < k → PlainAid.bt b (i + j) = PlainAid.bt a ((idxK i k ps).getD j 0)
theorem btw_iff {a b : ByteArray} (n : Nat) (hd : ∀ i j, i < j → j < n → PlainAid.bt a i ≠ PlainAid.bt a j) : ∀ (k i : Nat) (sw : Bool), i + k = n →
    (btwK a b k i sw = true ↔ ∃ ps ∈ fromK (i + 1) k, fromIdx a b i k ps ∧ (sw = true ∨ ps.length < k))
  | 0, i, sw, h => by
    simp only [btwK, fromK, List.mem_singleton, exists_eq_left, fromIdx, List.length_nil]
    constructor
    · intro h; exact ⟨fun j hj => absurd hj (by omega), .inl h⟩
    · rintro ⟨_, h | h⟩
      · exact h
      · omega
  | 1, i, sw, h => by
    simp only [btwK, fromK, List.mem_singleton, exists_eq_left, fromIdx, List.length_cons, List.length_nil]
    constructor
    · intro h
      split at h
      · rename_i e
        exact ⟨fun j hj => by obtain rfl : j = 0 := by omega
                              simp [idxK, e], .inl h⟩
      · cases h
    · rintro ⟨h1, h | h⟩
      · have := h1 0 (by omega)
        simp [idxK] at this
        rw [if_pos this.symm]; exact h
      · omega
  | k + 2, i, sw, h => by
    have ih1 := btw_iff (b := b) n hd (k + 1) (i + 1) sw (by omega)
    have ih2 := btw_iff (b := b) n hd k (i + 2) true (by omega)
    have hsplit : ∀ ps, ps ∈ fromK (i + 1) (k + 2) ↔ (∃ r ∈ fromK (i + 2) (k + 1), ps = ((i : Int) + 1) :: r) ∨ ps ∈ fromK (i + 3) k := fun ps => by
      rw [fromK, List.mem_append, List.mem_map]
      constructor
      · rintro (⟨r, hr, rfl⟩ | h)
        · exact .inl ⟨r, hr, by congr 1⟩
        · exact .inr h
      · rintro (⟨r, hr, rfl⟩ | h)
        · exact .inl ⟨r, hr, by congr 1⟩
        · exact .inr h
    rw [btwK]
    constructor
    · intro hb
      split at hb
      · rename_i e
        obtain ⟨r, hr, h1, h2⟩ := ih1.1 hb
        refine ⟨((i : Int) + 1) :: r, (hsplit _).2 (.inl ⟨r, hr, rfl⟩), fun j hj => ?_, ?_⟩
        · rw [idx_stay]
          rcases j with _ | j
          · simpa using e.symm
          · have := h1 j (by omega)
            rw [show i + (j + 1) = i + 1 + j by omega]
            simpa using this
        · rcases h2 with h2 | h2
          · exact .inl h2
          · right; rw [List.length_cons]; omega
      · split at hb
        · rename_i e
          obtain ⟨ps, hps, h1, h2⟩ := ih2.1 hb
          have hx := (fromK_row k (i + 3) ps hps)
          refine ⟨ps, (hsplit _).2 (.inr hps), fun j hj => ?_, .inr (by omega)⟩
          rw [idx_swap (fun x hx' => by have := hx.2 x hx'; omega)]
          rcases j with _ | _ | j
          · simpa using e.2.symm
          · simpa using e.1.symm
          · have := h1 j (by omega)
            rw [show i + (j + 1 + 1) = i + 2 + j by omega]
            simpa using this
        · cases hb
    · rintro ⟨ps, hps, h1, h2⟩
      rcases (hsplit ps).1 hps with ⟨r, hr, rfl⟩ | hps
      · rw [fromIdx, idx_stay] at h1
        have h0 := h1 0 (by omega)
        simp at h0
        rw [if_pos h0.symm]
        refine ih1.2 ⟨r, hr, fun j hj => ?_, ?_⟩
        · have := h1 (j + 1) (by omega)
          rw [show i + (j + 1) = i + 1 + j by omega] at this
          simpa using this
        · rcases h2 with h2 | h2
          · exact .inl h2
          · right; rw [List.length_cons] at h2; omega
      · have hx := (fromK_row k (i + 3) ps hps)
        rw [fromIdx, idx_swap (fun x hx' => by have := hx.2 x hx'; omega)] at h1
        have h0 := h1 0 (by omega)
        have h3 := h1 1 (by omega)
        simp at h0 h3
        have hne := hd i (i + 1) (by omega) (by omega)
        rw [if_neg (fun e => hne (by rw [e, h0])), if_pos ⟨h3.symm, h0.symm⟩]
        refine ih2.2 ⟨ps, hps, fun j hj => ?_, .inl rfl⟩
        have := h1 (j + 1 + 1) (by omega)
        rw [show i + (j + 1 + 1) = i + 2 + j by omega] at this
        simpa using this
/-! sws by fuel, for the kernel -/
def swsF (st : Int → Bool) (n : Nat) : Nat → Nat → List Int
  | 0, _ => []
  | f + 1, p => if p < n then (if st p then swsF st n f (p + 1) else (p : Int) :: swsF st n f (p + 2)) else []
theorem sws_F (st : Int → Bool) (n : Nat) : ∀ (f p : Nat), n ≤ p + f → sws st n p = swsF st n f p
  | 0, p, h => by rw [sws_end (by omega), swsF]
  | f + 1, p, h => by
    rw [swsF]
    by_cases hp : p < n
    · rw [if_pos hp]
      rcases hs : st p
      · rw [sws_swap hp hs, if_neg (by simp), sws_F st n f (p + 2) (by omega)]
      · rw [sws_stay hp hs, if_pos rfl, sws_F st n f (p + 1) (by omega)]
    · rw [sws_end hp, if_neg hp]
def idxC (n : Nat) (ps : List Int) : List Nat := (List.range n).map fun j => (cval (swsF (stays (ofPl ps)) n 9 1) j - 49).toNat
def okPs (n : Nat) (ps : List Int) : Bool := (idxC n ps == idxK 0 n ps) && (goodChange n (ofPl ps) == decide (ps.length < n))
theorem all_ok : ∀ n, n < 9 → 3 ≤ n → (fromK 1 n).all (okPs n) = true := of_decide_eq_true (by kernel_rfl)
end Go.Proofs.YtmdmnjjlpefigaaGreat
/- A change leads from one row to another just where the program finds one. -/
namespace Go.Proofs.YtmdmnjjlpefigaaGreat
set_option linter.unusedVariables false
set_option linter.unusedSimpArgs false
open Go.ChangeShapes Go.WideShapes Go.ChangeAt Go.RowKit Go.Deep
theorem nums_apply {a : ByteArray} (h : goodRow a = true) (c : ByteArray) : nums (applyR a c) = (rowV a.size (swaps a.size c)).map fun z => PlainAid.bt a (z - 49).toNat := by
  have hn := goodRow_n h
  have hr := goodRow_list h
  have e0 : nums (chRow a.size c) = rowV a.size (swaps a.size c) := by rw [chRow, nums_strOf (rowL_bytes (rowL_ch a.size c) (by rw [rowV_len]; omega))]
  have h2 := rowL_times hr (by rw [e0]; exact rowL_ch a.size c) (chRow_size a.size c).symm
  rw [applyR, timesS, nums_strOf (rowL_bytes h2 (by rw [timesL_len, chRow_size]; omega)), timesL, e0]
theorem apply_iff {a b : ByteArray} (ha : goodRow a = true) (e : a.size = b.size) {ps : List Int} (hps : ps ∈ fromK 1 a.size) : applyR a (ofPl ps) = b ↔ fromIdx a b 0 a.size ps := by
  have hn := goodRow_n ha
  have hok := all_ok a.size (by omega) (by omega)
  rw [List.all_eq_true] at hok
  have hok := hok ps hps
  rw [okPs, Bool.and_eq_true] at hok
  have hi : idxC a.size ps = idxK 0 a.size ps := by simpa using hok.1
  have hsw : swsF (stays (ofPl ps)) a.size 9 1 = swaps a.size (ofPl ps) := (sws_F _ _ _ _ (by omega)).symm
  have hat : ∀ j, j < a.size → (nums (applyR a (ofPl ps)))[j]? = some (PlainAid.bt a ((idxK 0 a.size ps).getD j 0)) := fun j hj => by
    rw [nums_apply ha, ← hi, rowV, List.map_map, List.getElem?_map, List.getElem?_range hj, idxC, hsw]
    simp [hj]
  constructor
  · intro h j hj
    have h1 := hat j hj
    rw [h, nums_at (by omega)] at h1
    injection h1 with h1
    rw [Nat.zero_add]; exact h1
  · intro h
    apply nums_inj
    apply List.ext_getElem?
    intro j
    by_cases hj : j < a.size
    · rw [hat j hj, nums_at (by omega)]
      have := h j hj
      rw [Nat.zero_add] at this
      rw [this]
    · rw [List.getElem?_eq_none (by rw [nums_len, applyR_size]; omega), List.getElem?_eq_none (by rw [nums_len]; omega)]
theorem mem_chs {n : Nat} {c : ByteArray} : c ∈ chsRaw n ↔ (∃ ps ∈ fromK 1 n, ofPl ps = c) ∧ goodChange n c = true := by
  rw [chsRaw, List.mem_filter, List.mem_map]
theorem row_ne {a : ByteArray} (ha : goodRow a = true) {i j : Nat} (hij : i < j) (hj : j < a.size) : PlainAid.bt a i ≠ PlainAid.bt a j := by
  have hp := (goodRow_list ha).1
  rw [List.nodup_iff_pairwise_ne, List.pairwise_iff_getElem] at hp
  have := hp i j (by rw [nums_len]; omega) (by rw [nums_len]; omega) hij
  have h1 := nums_at (s := a) (k := i) (by omega); have h2 := nums_at (s := a) (k := j) (by omega)
  rw [List.getElem?_eq_getElem (by rw [nums_len]; omega)] at h1 h2
  injection h1 with h1; injection h2 with h2
  rw [← h1, ← h2]; exact this
/-- Whether a change leads from a to b. -/
def btwB (a b : ByteArray) : Bool := btwK a b a.size 0 false
theorem btw_change {a b : ByteArray} (ha : goodRow a = true) (e : a.size = b.size) : btwB a b = true ↔ ∃ c ∈ chsRaw a.size, applyR a c = b := by
  have hn := goodRow_n ha
  have hok := all_ok a.size (by omega) (by omega)
  rw [List.all_eq_true] at hok
  rw [btwB, btw_iff (b := b) a.size (fun i j h1 h2 => row_ne ha h1 h2) a.size 0 false (by omega)]
  constructor
  · rintro ⟨ps, hps, h1, h2⟩
    have h3 := hok ps hps
    rw [okPs, Bool.and_eq_true] at h3
    have hl : ps.length < a.size := by rcases h2 with h2 | h2; cases h2; exact h2
    have hg : goodChange a.size (ofPl ps) = true := by
      have := h3.2
      rw [decide_eq_true hl] at this
      simpa using this
    exact ⟨ofPl ps, mem_chs.2 ⟨⟨ps, hps, rfl⟩, hg⟩, (apply_iff ha e hps).2 h1⟩
  · rintro ⟨c, hc, h1⟩
    obtain ⟨⟨ps, hps, rfl⟩, hg⟩ := mem_chs.1 hc
    have h3 := hok ps hps
    rw [okPs, Bool.and_eq_true, hg] at h3
    refine ⟨ps, hps, (apply_iff ha e hps).1 h1, .inr ?_⟩
    have := h3.2
    by_cases hl : ps.length < a.size
    · exact hl
    · rw [decide_eq_false hl] at this; simp at this
end Go.Proofs.YtmdmnjjlpefigaaGreat
/- The walks through all changes of a stage, the reference's side. -/
namespace Go.Proofs.YtmdmnjjlpefigaaGreat
set_option linter.unusedVariables false
set_option linter.unusedSimpArgs false
open Go.ChangeShapes Go.WideShapes Go.ChangeAt Go.RowKit Go.Deep
theorem own_lit1 {α : Type} {e : α → List Value} {s : Nat} (he : ∀ x, (e x).length = s) (w : World) (E : TypeId) (x : α) {base : Nat} (hb : base ≤ w.heap.size) : Owned e s E (w.alloc (.cells ⟨e x⟩ E)) base (some ⟨w.heap.size, 0, none⟩) 1 1 [x] :=
  ⟨he, rfl, by simpa using World.ownsRow_lit (e := E) (base := base) (size := s) w ⟨e x⟩ 1 hb (by unfold maxLen; omega) (by simp [he])⟩
end Go.Proofs.YtmdmnjjlpefigaaGreat
/- The walks through the text of places and the list of all changes, the reference's side. -/
namespace Go.Proofs.YtmdmnjjlpefigaaGreat
set_option linter.unusedVariables false
set_option linter.unusedSimpArgs false
open Go.ChangeShapes Go.WideShapes Go.ChangeAt Go.RowKit Go.Deep
end Go.Proofs.YtmdmnjjlpefigaaGreat
/- The walk through the list of all changes, the reference's side. -/
namespace Go.Proofs.YtmdmnjjlpefigaaGreat
set_option linter.unusedVariables false
set_option linter.unusedSimpArgs false
open Go.ChangeShapes Go.WideShapes Go.ChangeAt Go.RowKit Go.Deep
theorem ins_at {α : Type} {M : List α} {y : α} {q : Nat} (h : q ≤ M.length) : (M.take q ++ y :: M.drop q)[q]? = some y := by
  rw [List.getElem?_append_right (by rw [List.length_take]; omega), List.length_take, Nat.min_eq_left h, Nat.sub_self, List.getElem?_cons_zero]
theorem ins_before {α : Type} {M : List α} {y : α} {q : Nat} (h : q < M.length) : (M.take (q + 1) ++ y :: M.drop (q + 1))[q]? = M[q]? := by
  rw [List.getElem?_append_left (by rw [List.length_take]; omega), List.getElem?_take, if_pos (by omega)]
theorem ins_set {α : Type} {M : List α} {y z : α} {q : Nat} (h : q ≤ M.length) : (M.take q ++ y :: M.drop q).set q z = M.take q ++ z :: M.drop q := by
  rw [List.set_append_right _ _ (by rw [List.length_take]; omega), List.length_take, Nat.min_eq_left h, Nat.sub_self, List.set_cons_zero]
theorem ins_down {α : Type} {M : List α} {y z : α} {q : Nat} (hz : M[q]? = some z) : (M.take (q + 1) ++ y :: M.drop (q + 1)).set (q + 1) z = M.take q ++ z :: M.drop q := by
  have h := (List.getElem?_eq_some_iff.1 hz).1
  rw [ins_set (by omega), take_succ_some hz, List.append_assoc]
  congr 1
  rw [List.drop_eq_getElem_cons h, (List.getElem?_eq_some_iff.1 hz).2]; rfl
theorem ins_len {α : Type} {M : List α} {y : α} {q : Nat} (h : q ≤ M.length) : (M.take q ++ y :: M.drop q).length = M.length + 1 := by
  rw [List.length_append, List.length_cons, List.length_take, List.length_drop]; omega
theorem ins_perm {α : Type} {M : List α} {y : α} {q : Nat} : (M.take q ++ y :: M.drop q).Perm (M ++ [y]) := by
  refine (List.perm_middle).trans ?_
  rw [List.take_append_drop]
  exact (List.perm_append_singleton y M).symm
theorem filt_hit {f : ByteArray → Bool} {g : List Int → ByteArray} {T : List (List Int)} {j : Nat} {r : List Int} (hr : T[j]? = some r) (h : f (g r) = true) : ((T.take (j + 1)).map g).filter f = ((T.take j).map g).filter f ++ [g r] := by
  rw [take_succ_some hr, List.map_append, List.filter_append]
  simp [h]
theorem filt_miss {f : ByteArray → Bool} {g : List Int → ByteArray} {T : List (List Int)} {j : Nat} {r : List Int} (hr : T[j]? = some r) (h : f (g r) = false) : ((T.take (j + 1)).map g).filter f = ((T.take j).map g).filter f := by
  rw [take_succ_some hr, List.map_append, List.filter_append]
  simp [h]
end Go.Proofs.YtmdmnjjlpefigaaGreat
/- The walks through rows under changes, both sides. -/
namespace Go.Proofs.YtmdmnjjlpefigaaGreat
set_option linter.unusedVariables false
set_option linter.unusedSimpArgs false
open Go.ChangeShapes Go.WideShapes Go.ChangeAt Go.RowKit Go.Deep
theorem impl_apply {a c : ByteArray} {w : World} (ha : a.size ≤ 8) (hz : c.size ≤ 16777216) (hg : isDash c = true ∨ validD c = true) :
    Calls Tryz.prog 79 #[.string a, .string c] w fun e w' => e = .returned (.string (applyR a c)) ∧ Below w.heap.size w w' := by
  have ha2 : a.size ≤ 16777216 := by omega
  have hcs : (chRow a.size c).size ≤ 16777216 := by rw [chRow_size]; omega
  have hft := chRow_fits ha c
  go_in
  go_wp2_with (first | (go_at_call 93; refine (impl_changeRow hz ha hg).mono ?_; rintro e w1 ⟨rfl, hb1⟩) | (go_at_call 36; refine (impl_times ha2 hcs hft).mono ?_; rintro e w2 ⟨rfl, hb2⟩))
  go_ret
  exact ⟨rfl, below_go hb1 hb2⟩
theorem spec_l2Apply {a c : ByteArray} {w : World} (ha : a.size ≤ 8) (hz : c.size ≤ 16777216) :
    Calls Tryz.prog 62 #[.string a, .string c] w fun e w' => e = .returned (.string (applyR a c)) ∧ Below w.heap.size w w' := by
  have ha2 : a.size ≤ 16777216 := by omega
  have hcs : (chRow a.size c).size ≤ 16777216 := by rw [chRow_size]; omega
  have hft := chRow_fits ha c
  go_in
  go_wp2_with (first | (go_at_call 78; refine (spec_l2Row hz ha).mono ?_; rintro e w1 ⟨rfl, hb1⟩) | (go_at_call 30; refine (spec_l1Times ha2 hcs hft).mono ?_; rintro e w2 ⟨rfl, rfl⟩))
  go_ret
  exact ⟨rfl, hb1⟩
set_option maxRecDepth 100000 in
theorem impl_rowsUnder {A : Option Addr} {N c : Nat} {a : ByteArray} {l : List ByteArray} {w : World} (ha : a.size ≤ 8) (hN : l.length = N) (h : Strs w A l) (hz : N ≤ 16000000) (hs : ∀ s ∈ l, s.size ≤ 16777216) (hg : ∀ s ∈ l, isDash s = true ∨ validD s = true) :
    Calls Tryz.prog 71 #[.string a, .slice A N c] w fun e w' => ∃ A' c', e = .returned (.slice A' (N + 1) c') ∧
      Owned strE 1 9 w' w.heap.size A' (N + 1) c' (rowsL a l (N + 1)) ∧ Below w.heap.size w w' := by
  subst hN
  have HS := Lib.hid hs
  have HGd := Lib.hid hg
  have h1 : Hid (Owned strE 1 9 (w.alloc (.cells #[.string a] 9)) w.heap.size (some ⟨w.heap.size, 0, none⟩) 1 1 (rowsL a l 1)) := Lib.hid ⟨strE_len, by simp [rowsL], by simpa [rowsL, rAt, strE] using World.ownsRow_lit (e := 9) (base := w.heap.size) (size := 1) w #[.string a] 1 (Nat.le_refl _) (by decide) (by simp)⟩
  clear hs hg
  go_in
  go_wp2
  go_loopw [0, 5, 12] (fun r v i wr => ∃ (k : Nat) (A' : Option Addr) (m c' : Nat), k ≤ l.length ∧ i = .int .i64 k ∧ r = .string (rAt a l k) ∧ v = .slice A' m c' ∧ m = k + 1 ∧ Owned strE 1 9 wr w.heap.size A' m c' (rowsL a l (k + 1)) ∧ Below w.heap.size w wr) (fun _ _ i _ => l.length - (intOf i).toNat)
  case atStart => exact ⟨0, _, _, _, Nat.zero_le _, rfl, rfl, rfl, rfl, h1.out, by (repeat' (first | (with_reducible exact Below.refl _ _) | (with_reducible assumption) | (with_reducible refine below_drewN ?_ _) | (with_reducible refine Below.drew ?_) | (with_reducible refine below_alloc ?_ _) | (with_reducible refine Below.alloc ?_ ?_ _) | (with_reducible refine Below.setCell ?_ ?_ _) | (with_reducible refine below_go ?_ (by with_reducible assumption)) | (with_reducible refine below_then (by with_reducible assumption) ?_ ?_) | go_size))⟩
  case round =>
    obtain ⟨k, A', m, c', hk, rfl, rfl, rfl, rfl, ho, hb⟩ := hrel
    have HO := Lib.hid ho
    have hsz := hb.size
    clear ho
    by_cases hlt : k < l.length
    · obtain ⟨b1, o1, y, rfl, hbb, hy, hcy⟩ := (h.below hb (Nat.le_refl _)).at_str hlt
      have hys := HS.out y (List.mem_of_getElem? hy)
      have hgy := HGd.out y (List.mem_of_getElem? hy)
      have hra : (rAt a l k).size ≤ 8 := by rw [rAt_size]; exact ha
      have E := Lib.hid (rAt_succ (a := a) hy)
      have HT := Lib.hid (rowsL_succ a l (k + 1))
      clear hy
      go_wp2_with (first | (go_at_call 79; refine (impl_apply hra hys hgy).mono ?_; rw [← E.out]; rintro e w1 ⟨rfl, hb1⟩; have HO1 := Lib.hid (HO.out.up hb1); have hsz1 := hb1.size) | (at_builtin; go_must ((refine wpList_append_rec Tryz.elStr rfl (.tmp 19) (.tmp 21) rfl rfl (HO1.out.alloc _) (rAt a l (k + 1)) rfl (Box.at_ _ [.string (rAt a l (k + 1))] _ ?_) (strE_one _) ?_ (by decide) ?_ ?_; (focus (first | omega | (simp only [World.size_alloc]; done) | (simp only [World.size_alloc]; omega) | (simp; done) | (simp; omega))); (focus (first | omega | (simp only [World.size_alloc]; done) | (simp only [World.size_alloc]; omega) | (simp; done) | (simp; omega))); (focus (first | omega | (simp only [World.size_alloc]; done) | (simp only [World.size_alloc]; omega) | (simp; done) | (simp; omega))); intro A2 c2 w2 ho2 hg2 hb2))))
      go_roundw
      case rel => exact ⟨k + 1, A2, k + 1 + 1, c2, by omega, by go_num, rfl, by go_num, rfl, by rw [HT.out]; exact ho2, ((hb.trans (hb1.mono hsz)).alloc (by omega) _).trans hb2⟩
      case measure => simp [intOf]; omega
    · obtain rfl : k = l.length := by omega
      go_wp2
      go_ret
      exact ⟨_, _, rfl, HO.out, hb⟩
set_option maxRecDepth 100000 in
theorem spec_l4Lead {A : Option Addr} {N c : Nat} {a : ByteArray} {l : List ByteArray} {w : World} (ha : a.size ≤ 8) (hN : l.length = N) (h : Strs w A l) (hz : N ≤ 16000000) (hs : ∀ s ∈ l, s.size ≤ 16777216) :
    Calls Tryz.prog 61 #[.slice A N c, .string a] w fun e w' => ∃ A' c', e = .returned (.tuple #[.slice A' N c', .string (rAt a l N)]) ∧
      Owned strE 1 9 w' w.heap.size A' N c' (rowsL a l N) ∧ Below w.heap.size w w' := by
  subst hN
  have HS := Lib.hid hs
  clear hs
  go_in
  go_wp2
  go_loopw [6, 7, 13] (fun v r i wr => ∃ (k : Nat) (A' : Option Addr) (m c' : Nat), k ≤ l.length ∧ i = .int .i64 k ∧ r = .string (rAt a l k) ∧ v = .slice A' m c' ∧ m = k ∧ Owned strE 1 9 wr w.heap.size A' m c' (rowsL a l k) ∧ Below w.heap.size w wr) (fun _ _ i _ => l.length - (intOf i).toNat)
  case atStart => exact ⟨0, none, 0, 0, Nat.zero_le _, rfl, rfl, rfl, rfl, Owned.nil strE_len _ _ _, Below.refl _ _⟩
  case round =>
    obtain ⟨k, A', m, c', hk, rfl, rfl, rfl, rfl, ho, hb⟩ := hrel
    have HO := Lib.hid ho
    have hsz := hb.size
    clear ho
    by_cases hlt : m < l.length
    · obtain ⟨b1, o1, y, rfl, hbb, hy, hcy⟩ := (h.below hb (Nat.le_refl _)).at_str hlt
      have hys := HS.out y (List.mem_of_getElem? hy)
      have hra : (rAt a l m).size ≤ 8 := by rw [rAt_size]; exact ha
      have E := Lib.hid (rAt_succ (a := a) hy)
      have HT := Lib.hid (rowsL_succ a l m)
      clear hy
      go_wp2_with (first | (go_at_call 62; refine (spec_l2Apply hra hys).mono ?_; rw [← E.out]; rintro e w3 ⟨rfl, hb3⟩) | (at_builtin; go_must ((refine wpList_append_rec Tryz.elStr rfl (.tmp 17) (.tmp 19) rfl rfl (HO.out.alloc _) (rAt a l m) rfl (Box.at_ _ [.string (rAt a l m)] _ ?_) (strE_one _) ?_ (by decide) ?_ ?_; (focus (first | omega | (simp only [World.size_alloc]; done) | (simp only [World.size_alloc]; omega) | (simp; done) | (simp; omega))); (focus (first | omega | (simp only [World.size_alloc]; done) | (simp only [World.size_alloc]; omega) | (simp; done) | (simp; omega))); (focus (first | omega | (simp only [World.size_alloc]; done) | (simp only [World.size_alloc]; omega) | (simp; done) | (simp; omega))); intro A2 c2 w2 ho2 hg2 hb2; have hsz2 := hb2.size))))
      go_roundw
      case rel => exact ⟨m + 1, A2, m + 1, c2, by omega, by go_num, rfl, by go_num, rfl, by rw [HT.out]; exact ho2.up hb3, below_go ((hb.alloc hsz _).trans hb2) hb3⟩
      case measure => simp [intOf]; omega
    · obtain rfl : m = l.length := by omega
      go_wp2
      go_ret2
      exact ⟨_, _, rfl, HO.out, hb⟩
end Go.Proofs.YtmdmnjjlpefigaaGreat
/- The walks through rows: good rows, even rows. -/
namespace Go.Proofs.YtmdmnjjlpefigaaGreat
set_option linter.unusedVariables false
set_option linter.unusedSimpArgs false
open Go.ChangeShapes Go.WideShapes Go.ChangeAt Go.RowKit Go.Deep
end Go.Proofs.YtmdmnjjlpefigaaGreat
/- GoodRow of the program: the bits. -/
namespace Go.Proofs.YtmdmnjjlpefigaaGreat
set_option linter.unusedVariables false
set_option linter.unusedSimpArgs false
open Go.ChangeShapes Go.WideShapes Go.ChangeAt Go.RowKit Go.Deep
end Go.Proofs.YtmdmnjjlpefigaaGreat
/- The walks through the change between two rows, both sides. -/
namespace Go.Proofs.YtmdmnjjlpefigaaGreat
set_option linter.unusedVariables false
set_option linter.unusedSimpArgs false
open Go.ChangeShapes Go.WideShapes Go.ChangeAt Go.RowKit Go.Deep
theorem chs_len {n : Nat} (h : n ≤ 8) : (chsRaw n).length ≤ 34 := by
  rw [chsRaw]
  exact Nat.le_trans (List.length_filter_le _ _) (by rw [List.length_map]; exact fromK_le h 1)
theorem btw_eq {a b : ByteArray} {k i : Nat} {sw : Bool} (h : PlainAid.bt a i = PlainAid.bt b i) : btwK a b (k + 1) i sw = btwK a b k (i + 1) sw := by
  rcases k with _ | k
  · show (if PlainAid.bt a i = PlainAid.bt b i then sw else false) = sw
    exact if_pos h
  · rw [btwK, if_pos h]
theorem btw_no1 {a b : ByteArray} {i : Nat} {sw : Bool} (h : ¬ PlainAid.bt a i = PlainAid.bt b i) : btwK a b 1 i sw = false := by rw [btwK, if_neg h]
theorem btw_swap {a b : ByteArray} {k i : Nat} {sw : Bool} (h : ¬ PlainAid.bt a i = PlainAid.bt b i) (h1 : PlainAid.bt a i = PlainAid.bt b (i + 1)) (h2 : PlainAid.bt a (i + 1) = PlainAid.bt b i) : btwK a b (k + 2) i sw = btwK a b k (i + 2) true := by
  rw [btwK, if_neg h, if_pos ⟨h1, h2⟩]
theorem btw_no {a b : ByteArray} {k i : Nat} {sw : Bool} (h : ¬ PlainAid.bt a i = PlainAid.bt b i) (h1 : ¬ (PlainAid.bt a i = PlainAid.bt b (i + 1) ∧ PlainAid.bt a (i + 1) = PlainAid.bt b i)) : btwK a b (k + 2) i sw = false := by
  rw [btwK, if_neg h, if_neg h1]
end Go.Proofs.YtmdmnjjlpefigaaGreat
/- The walks through lists of rows: which are good, their signs. -/
namespace Go.Proofs.YtmdmnjjlpefigaaGreat
set_option linter.unusedVariables false
set_option linter.unusedSimpArgs false
open Go.ChangeShapes Go.WideShapes Go.ChangeAt Go.RowKit Go.Deep
end Go.Proofs.YtmdmnjjlpefigaaGreat
/- The walks through lists of changes between rows, truth by sorting, factorials, and extents. -/
namespace Go.Proofs.YtmdmnjjlpefigaaGreat
set_option linter.unusedVariables false
set_option linter.unusedSimpArgs false
open Go.ChangeShapes Go.WideShapes Go.ChangeAt Go.RowKit Go.Deep
theorem fact_le : ∀ k, k < 9 → fact k ≤ 40320 := of_decide_eq_true (by kernel_rfl)
theorem fact_one {n : Nat} (h : n ≤ 1) : fact n = 1 := by
  rcases n with _ | _ | n
  · rfl
  · rfl
  · omega
theorem spec_l1Fact {n : Nat} {w : World} (hn : n ≤ 8) :
    Calls Tryz.prog 64 #[.int .i64 n] w fun e w' => e = .returned (.int .i64 (fact n)) ∧ w = w' := by
  have HF : Hid (∀ k, fact (k + 1) = (k + 1) * fact k) := Lib.hid (fun _ => rfl)
  have hfn := fact_le n (by omega)
  go_in
  go_wp2
  go_loopw [0, 3] (fun i v wr => ∃ (k q : Nat), k ≤ n ∧ i = .int .i64 k ∧ v = .int .i64 q ∧ q ≤ 40320 ∧ Hid (q * fact k = fact n) ∧ w = wr) (fun i _ _ => (intOf i).toNat)
  case atStart => exact ⟨n, 1, Nat.le_refl _, rfl, rfl, by omega, Lib.hid (Nat.one_mul _), rfl⟩
  case round =>
    obtain ⟨k, q, hk, rfl, rfl, hq, HQ, rfl⟩ := hrel
    by_cases hlt : 1 < k
    · obtain ⟨m, rfl⟩ : ∃ m, k = m + 1 := ⟨k - 1, by omega⟩
      have hI : (1 : Int) < (m : Int) + 1 := by omega
      have h2 := Lib.hid (show q * (m + 1) * fact m = fact n by rw [Nat.mul_assoc, ← HF.out, HQ.out])
      have h3 : q * (m + 1) ≤ 40320 := Nat.le_trans (Nat.le_mul_of_pos_right _ (fact_pos m)) (by rw [h2.out]; exact hfn)
      have h4 : ((q : Int) * ((m : Int) + 1)) = ((q * (m + 1) : Nat) : Int) := by rw [Int.natCast_mul]; rfl
      have h5 : 0 ≤ (q : Int) * ((m : Int) + 1) ∧ (q : Int) * ((m : Int) + 1) ≤ 40320 := by rw [h4]; omega
      have H4 := Lib.hid h4
      obtain ⟨h6, h7⟩ := h5
      clear h4
      go_wp2
      go_roundw
      case rel => exact ⟨m, q * (m + 1), by omega, by first | go_num | rfl, by rw [H4.out], h3, Lib.hid h2.out, trivial⟩
      case measure => simp [intOf]
    · have hI : ¬ (1 : Int) < (k : Int) := by omega
      have e1 := Lib.hid (show q = fact n by rw [← HQ.out, fact_one (by omega : k ≤ 1), Nat.mul_one])
      go_wp2
      go_ret
      rw [← e1.out]
      exact ⟨rfl, rfl⟩
/-- Row k of a list of rows, cyclically. -/
def cyc (l : List ByteArray) (k : Nat) : ByteArray := l.getD (k % l.length) ByteArray.empty
def nextAt (l : List ByteArray) (k : Nat) : Bool := btwB (cyc l k) (cyc l (k + 1))
def nextsB (l : List ByteArray) : Bool := (List.range l.length).all (nextAt l)
theorem cyc_at {l : List ByteArray} {k : Nat} {x : ByteArray} (h : l[k]? = some x) : cyc l k = x := by
  have := (List.getElem?_eq_some_iff.1 h).1
  rw [cyc, Nat.mod_eq_of_lt this, List.getD, h]; rfl
theorem cyc_last {l : List ByteArray} {x : ByteArray} (h : l[0]? = some x) : cyc l l.length = x := by
  rw [cyc, Nat.mod_self, List.getD, h]; rfl
theorem btw_self (a : ByteArray) : ∀ (k i : Nat) (sw : Bool), btwK a a k i sw = sw
  | 0, _, _ => by rw [btwK]
  | k + 1, i, sw => by rw [btw_eq rfl, btw_self a k]
theorem nexts_one {l : List ByteArray} (h : l.length = 1) : nextsB l = false := by
  match l, h with
  | [x], _ =>
    show (List.all [0] (nextAt [x])) = false
    simp [nextAt, cyc, btwB, btw_self]
theorem goodRows_size {l : List ByteArray} (h : goodRows l = true) {i j : Nat} {x y : ByteArray} (hx : l[i]? = some x) (hy : l[j]? = some y) : x.size = y.size := by
  rw [goodRows, Bool.and_eq_true, List.all_eq_true] at h
  have key : ∀ (k : Nat) (z : ByteArray), l[k]? = some z → z.size = (l.getD 0 ByteArray.empty).size := fun k z hz => by
    have := h.1 k (List.mem_range.2 (List.getElem?_eq_some_iff.1 hz).1)
    rw [okRow, Bool.and_eq_true, List.getD, hz] at this
    simpa using this.2
  rw [key i x hx, key j y hy]
/-! extents -/
def smallR (l : List ByteArray) : Bool := goodRows l && (decide (0 < l.length) && decide ((l.getD 0 ByteArray.empty).size ≤ 6))
def extR (l : List ByteArray) : Bool := smallR l && (nextsB l && (nodupB l && (l.length == fact (l.getD 0 ByteArray.empty).size)))
theorem small_t {l : List ByteArray} (h : smallR l = true) : goodRows l = true ∧ 0 < l.length ∧ ∀ x, l[0]? = some x → x.size ≤ 6 := by
  simp only [smallR, Bool.and_eq_true, decide_eq_true_eq] at h
  exact ⟨h.1, h.2.1, fun x hx => by have := h.2.2; rw [List.getD, hx] at this; exact this⟩
end Go.Proofs.YtmdmnjjlpefigaaGreat
/- The walks through closures: the group that some rows generate, both sides. -/
namespace Go.Proofs.YtmdmnjjlpefigaaGreat
set_option linter.unusedVariables false
set_option linter.unusedSimpArgs false
open Go.ChangeShapes Go.WideShapes Go.ChangeAt Go.RowKit Go.Deep
open Go.Maps (Keyed string_keyed)
open Go.WideMaps (keyOf_string_mk)
theorem pre_at {α : Type} {l m : List α} {k : Nat} {x : α} (h : l <+: m) (hx : l[k]? = some x) : m[k]? = some x := by
  obtain ⟨t, rfl⟩ := h
  rw [List.getElem?_append_left (List.getElem?_eq_some_iff.1 hx).1]; exact hx
theorem pre_len {α : Type} {l m : List α} (h : l <+: m) : l.length ≤ m.length := h.length_le
theorem own_lit1_at' {α : Type} {e : α → List Value} {s : Nat} (he : ∀ x, (e x).length = s) (w : World) (E : TypeId) (x : α) {b base : Nat} (h : b = w.heap.size) (hb : base ≤ w.heap.size) : Owned e s E (w.alloc (.cells ⟨e x⟩ E)) base (some ⟨b, 0, none⟩) 1 1 [x] := by
  subst h
  exact ⟨he, rfl, by simpa using World.ownsRow_lit (e := E) (base := base) (size := s) w ⟨e x⟩ 1 hb (by unfold maxLen; omega) (by simp [he])⟩
theorem wpList_set_ins {P : Program} {ops : Array Oper} {rest : List Oper} {o : Oper} {a : Act} {Q : Exit → Act → World → Prop} {W : World} (hgd : o.guard = none) (M X V : Operand) (t : TypeId) (hop : o.op = Op.insert t M X V)
    {k e : TypeId} (K : Keyed P k) (ht : P.underlying t = some (.map k e)) (he : P.underlying e = some .bool) {b n : Nat} {S : List Value} (hm : a.eval M = .map (some b)) (h : SetOf P W k e b n S) (hn : n ≤ 16777216) {key : Value} (hx : a.eval X = key) (hv : a.eval V = .bool true)
    {kl : Lit} (hkey : keyOf P k key = some kl) (hK : ∀ w', SetOf P w' k e b (n + 1) (key :: S) → W.grownBy w' (some b) → wpList P ops Q rest (a.put o.dst undef) w') : wpList P ops Q (o :: rest) a W := by
  obtain ⟨D, h1, h2⟩ := h
  obtain ⟨w', hrun, hown, hg⟩ := h1.update K ht (by unfold maxLen; omega) hkey (plainElem_bool he true)
  refine wpList_plain hgd fun K' hK' => ?_
  unfold Oper.wp
  simp [execOp, hop, hm, hx, hv, hrun, Result.andThen]
  refine hK' _ _ (hK w' ⟨_, hown, fun key' kl' hk' => ?_⟩ hg)
  by_cases ek : kl' = kl
  · subst ek
    have e1 : key' = key := K.inj hk' hkey
    subst e1
    rw [Maps.atKey_put_same h1.isMap (K.key hkey)]
    exact ⟨fun _ => rfl, fun hne => absurd (List.mem_cons_self ..) hne⟩
  · have e1 : key' ≠ key := fun e2 => ek (by rw [e2, hkey] at hk'; injection hk' with hk'; exact hk'.symm)
    rw [Maps.atKey_put_other ek]
    obtain ⟨a1, a2⟩ := h2 key' kl' hk'
    refine ⟨fun hi => a1 ?_, fun hi => a2 (fun hc => hi (List.mem_cons_of_mem _ hc))⟩
    rcases List.mem_cons.1 hi with hi | hi
    · exact absurd hi e1
    · exact hi
/-- The keys of a set of texts. -/
def keysS (L : List ByteArray) : List Value := (L.map strV).reverse
theorem keysS_mem {s : ByteArray} {L : List ByteArray} : strV s ∈ keysS L ↔ s ∈ L := by rw [keysS, List.mem_reverse, strV_mem]
theorem keysS_snoc (L : List ByteArray) (s : ByteArray) : keysS (L ++ [s]) = strV s :: keysS L := by rw [keysS, keysS, List.map_append, List.reverse_append]; rfl
set_option maxHeartbeats 1000000 in
set_option maxRecDepth 100000 in
theorem impl_generated {A : Option Addr} {N c n most : Nat} {gs : List ByteArray} {w : World} (hN : gs.length = N) (h : Strs w A gs) (hz : N ≤ 16777216) (h3 : 3 ≤ n) (h8 : n ≤ 8) (hg : ∀ g ∈ gs, RowN n g) (hm : 1 ≤ most) (hm2 : most ≤ 1000000) :
    Calls Tryz.prog 35 #[.int .i64 n, .slice A N c, .int .i64 most] w fun e w' => ∃ A' m' c', e = .returned (.tuple #[.slice A' m' c', .bool (decide ((clF n gs).length ≤ most))]) ∧ ((clF n gs).length ≤ most → m' = (clF n gs).length ∧ ∃ L, Owned strE 1 9 w' w.heap.size A' m' c' L ∧ L.Perm (clF n gs) ∧ Srt L) ∧ (¬ (clF n gs).length ≤ most → A' = none ∧ m' = 0 ∧ c' = 0) ∧ Below w.heap.size w w' := by
  subst hN
  have hmm := @run_makeMap Tryz.prog
  have KS := string_keyed (P := Tryz.prog) (k := 9) Tryz.underlying9
  have HG := Lib.hid hg
  have hr := rowN_rounds h3 h8
  have h40 : fact n ≤ 40320 := fact_le8 h8
  have HOK := Lib.hid (fun k => clAt_ok hr hg k)
  have HPF := Lib.hid (fun k x (hx : (clAt gs (roundsS n) k)[k]? = some x) j (hj : j ≤ gs.length) => clPart_F h3 h8 hg hx hj)
  have HEND := Lib.hid (fun k (hk : (clAt gs (roundsS n) k).length = k) => clF_end h3 h8 hg hk)
  have HLE := Lib.hid (fun k => (clAt_ok hr hg k).le)
  have hkr := keyOf_string_mk (P := Tryz.prog) (k := 9) Tryz.underlying9 (s := roundsS n) (by rw [hr.2]; unfold maxLen; omega)
  have HKR := Lib.hid hkr
  clear hg hkr
  have HM0 := Lib.hid (SetOf.made Tryz.prog w 9 4)
  go_in
  go_wp2_with (first | (go_at_call 53; refine (impl_rounds h8).mono ?_; rintro e w' ⟨rfl, rfl⟩) | (refine wpList_set_ins rfl (.tmp 14) (.tmp 16) (.const (.bool true)) 79 rfl KS Tryz.underlying79 Tryz.underlying4 rfl HM0.out ?_ (key := strV (roundsS n)) rfl rfl HKR.out ?_; (focus (first | omega | (simp only [World.size_alloc]; done) | (simp only [World.size_alloc]; omega) | (simp; done) | (simp; omega))); intro w1 hm1 hg1; have hb1 : Below w.heap.size w w1 := (((Below.refl _ _).alloc (Nat.le_refl _) (.map #[] 0)).grown hg1 (by simp) (fun k hk => by injection hk with hk; omega)); have hw1 : w.heap.size + 1 ≤ w1.heap.size := (by have := hg1.size; simp at this; omega)))
  clear hmm HM0
  have HM1 := Lib.hid (show SetOf Tryz.prog (w1.alloc (.cells #[.string (roundsS n)] 9)) 9 4 w.heap.size 1 (keysS (clAt gs (roundsS n) 0)) from (hm1.alloc _))
  clear hm1 hg1
  go_loopw [9, 10] (fun v i wr => ∃ (k : Nat) (A' : Option Addr) (c' : Nat), k ≤ (clAt gs (roundsS n) k).length ∧ (clAt gs (roundsS n) k).length ≤ most ∧ i = .int .i64 k ∧ v = .slice A' (clAt gs (roundsS n) k).length c' ∧ Hid (SetOf Tryz.prog wr 9 4 w.heap.size (clAt gs (roundsS n) k).length (keysS (clAt gs (roundsS n) k))) ∧ Hid (Owned strE 1 9 wr (w.heap.size + 1) A' (clAt gs (roundsS n) k).length c' (clAt gs (roundsS n) k)) ∧ Below w.heap.size w wr) (fun _ i _ => fact n - (intOf i).toNat)
  case atStart => exact ⟨0, some ⟨w1.heap.size, 0, none⟩, 1, Nat.zero_le _, hm, rfl, rfl, HM1, Lib.hid (own_lit1_at' strE_len w1 9 (roundsS n) rfl hw1), by (repeat' (first | (with_reducible exact Below.refl _ _) | (with_reducible assumption) | (with_reducible refine below_drewN ?_ _) | (with_reducible refine Below.drew ?_) | (with_reducible refine below_alloc ?_ _) | (with_reducible refine Below.alloc ?_ ?_ _) | (with_reducible refine Below.setCell ?_ ?_ _) | (with_reducible refine below_go ?_ (by with_reducible assumption)) | (with_reducible refine below_then (by with_reducible assumption) ?_ ?_) | go_size))⟩
  case round =>
    obtain ⟨k, A1, c1, hk, hkm, rfl, rfl, HM, HO, hb⟩ := hrel
    rename World => w2
    have hle := HLE.out k
    have hle1 := HLE.out (k + 1)
    by_cases hlt : k < (clAt gs (roundsS n) k).length
    · obtain ⟨x, hx⟩ := some_of_lt hlt
      have HX := Lib.hid hx
      have hxN := (HOK.out k).2 x (List.mem_of_getElem? hx)
      have HP := Lib.hid (fun j (hj : j ≤ gs.length) => HPF.out k x hx j hj)
      have HNX := Lib.hid (clAt_more (gs := gs) (r := roundsS n) hx)
      have HPO := Lib.hid (fun j => (HOK.out k).part hxN HG.out j)
      clear hx
      go_wp2
      go_loopw [9, 29] (fun v i wr => ∃ (j : Nat) (A' : Option Addr) (c' : Nat), j ≤ gs.length ∧ (clPart gs x j (clAt gs (roundsS n) k)).length ≤ most ∧ i = .int .i64 j ∧ v = .slice A' (clPart gs x j (clAt gs (roundsS n) k)).length c' ∧ Hid (SetOf Tryz.prog wr 9 4 w.heap.size (clPart gs x j (clAt gs (roundsS n) k)).length (keysS (clPart gs x j (clAt gs (roundsS n) k)))) ∧ Hid (Owned strE 1 9 wr (w.heap.size + 1) A' (clPart gs x j (clAt gs (roundsS n) k)).length c' (clPart gs x j (clAt gs (roundsS n) k))) ∧ Below w.heap.size w wr) (fun _ i _ => gs.length - (intOf i).toNat)
      case atStart => exact ⟨0, A1, c1, Nat.zero_le _, hkm, rfl, rfl, HM, HO, hb⟩
      case round =>
        clear HM HO hb
        obtain ⟨j, A1, c1, hj, hjm, rfl, rfl, HM, HO, hb⟩ := hrel
        rename World => w3
        have hlen := (HPO.out j).le
        have hpl := pre_len (clPart_pre gs x j (clAt gs (roundsS n) k))
        by_cases hjl : j < gs.length
        · obtain ⟨b1, o1, g, rfl, hbb, hgj, hcg0⟩ := h.at_str hjl
          have hcg := (hb.cell (p := ⟨b1, o1 + j, none⟩) hbb).trans hcg0
          obtain ⟨b2, rfl, hb2lo, _, gc, _⟩ := HO.out.at_ (by omega)
          have hcx := gc k x 0 _ (pre_at (clPart_pre gs x j (clAt gs (roundsS n) k)) HX.out) rfl
          simp only [Nat.mul_one, Nat.add_zero] at hcx
          have hgN := HG.out g (List.mem_of_getElem? hgj)
          have hft := rowN_fits hxN hgN
          have hxs : x.size ≤ 16777216 := by rw [hxN.2]; omega
          have hgz : g.size ≤ 16777216 := by rw [hgN.2]; omega
          have hrN := hxN.times hgN
          have HS := Lib.hid (clPart_succ (x := x) (clAt gs (roundsS n) k) hgj)
          obtain ⟨r, hr'⟩ : ∃ r, r = timesS x g := ⟨_, rfl⟩
          have HRD := Lib.hid hr'
          have hkey := keyOf_string_mk (P := Tryz.prog) (k := 9) Tryz.underlying9 (s := r) (by rw [hr', hrN.2]; unfold maxLen; omega)
          have HKEY := Lib.hid hkey
          clear gc hgj hcg0 hkey hr'
          go_wp2_with fail
          refine (impl_times hxs hgz hft).mono ?_; rw [← HRD.out]; rintro e w4 ⟨rfl, hb4⟩
          clear hcx hcg hft
          have hB4 := below_go hb hb4
          have HM4 := Lib.hid (HM.out.up hb4)
          have HO4 := Lib.hid (HO.out.up hb4)
          have lk := HM4.out.look (t := 79) KS Tryz.underlying79 Tryz.underlying4 (by kernel_rfl) HKEY.out
          have mem : strV r ∈ keysS (clPart gs x j (clAt gs (roundsS n) k)) ↔ r ∈ clPart gs x j (clAt gs (roundsS n) k) := keysS_mem
          by_cases hin : r ∈ clPart gs x j (clAt gs (roundsS n) k)
          · have lk1 := lk.1 (mem.2 hin)
            have e1 := Lib.hid (show clPart gs x (j + 1) (clAt gs (roundsS n) k) = clPart gs x j (clAt gs (roundsS n) k) by rw [HS.out, clAdd_in (by rw [← HRD.out]; exact hin)])
            clear lk mem hin
            go_wp2
            go_roundw
            case rel => exact ⟨j + 1, _, _, by omega, by rw [e1.out]; exact hjm, by go_num, by rw [e1.out], Lib.hid (by rw [e1.out]; exact HM4.out), Lib.hid (by rw [e1.out]; exact HO4.out), hB4⟩
            case measure => simp [intOf]; omega
          · have lk1 := lk.2 (fun q => hin (mem.1 q))
            have e1 := Lib.hid (show clPart gs x (j + 1) (clAt gs (roundsS n) k) = clPart gs x j (clAt gs (roundsS n) k) ++ [r] by rw [HS.out, clAdd_new (by rw [← HRD.out]; exact hin), ← HRD.out])
            have hl1 := pre_len (HP.out (j + 1) (by omega))
            rw [e1.out, List.length_append, List.length_singleton] at hl1
            clear lk mem hin
            by_cases hmost : (clPart gs x j (clAt gs (roundsS n) k)).length = most
            · have hq : ((clPart gs x j (clAt gs (roundsS n) k)).length : Int) = (most : Int) := by omega
              have hno := Lib.hid (show ¬ (clF n gs).length ≤ most by omega)
              have hdec := Lib.hid (decide_eq_false hno.out)
              clear hmost
              go_wp2
              go_ret2
              rw [hdec.out]
              exact ⟨none, 0, 0, rfl, fun q => absurd q hno.out, fun _ => ⟨rfl, rfl, rfl⟩, hB4⟩
            · have hq : ¬ ((clPart gs x j (clAt gs (roundsS n) k)).length : Int) = (most : Int) := by omega
              have hno : b2 ≠ w.heap.size := by omega
              have hs4 := hb4.size
              have el : (clPart gs x j (clAt gs (roundsS n) k) ++ [r]).length = (clPart gs x j (clAt gs (roundsS n) k)).length + 1 := by simp
              have EL := Lib.hid el
              have hlm : (clPart gs x j (clAt gs (roundsS n) k)).length + 1 ≤ most := by omega
              clear hmost el
              go_wp2_with (first | (at_mapUpdate; go_must ((refine wpList_set_add rfl (.tmp 46) (.tmp 47) (.const (.bool true)) 79 rfl KS Tryz.underlying79 Tryz.underlying4 rfl HM4.out ?_ (key := strV r) rfl rfl HKEY.out ?_; (focus (first | omega | (simp only [World.size_alloc]; done) | (simp only [World.size_alloc]; omega) | (simp; done) | (simp; omega))); intro w5 hm5 hg5; have HO5 := Lib.hid (HO4.out.past hg5 (Nat.lt_succ_self _)); have hs5 := hg5.size))) | (at_builtin; go_must ((refine wpList_append_recs Tryz.elStr strE_one rfl (.tmp 48) (.tmp 50) rfl rfl (HO5.out.alloc _) rfl (own_lit1_at' strE_len w5 9 r rfl (Nat.le_refl _)).recs rfl ?_ (by decide) ?_ ?_; (focus (first | omega | (simp only [World.size_alloc]; done) | (simp only [World.size_alloc]; omega) | (simp; done) | (simp; omega))); (focus (first | omega | (simp only [World.size_alloc]; done) | (simp only [World.size_alloc]; omega) | (simp; done) | (simp; omega))); intro A3 c3 w6 ho6 hg6 hl6))))
              have hm6 := (hm5.alloc (.cells #[.string r] 9)).kept hg6 (fun e => by injection e with e; exact hno e.symm)
              have hb6 : Below w.heap.size w w6 := ((hB4.grown hg5 hB4.size (fun k hk => by injection hk with hk; omega)).alloc (by omega) _).trans (grown_base hg6 (by simp; omega) (fun k hk => by injection hk with hk; dsimp only at hk; omega))
              go_roundw
              case rel => exact ⟨j + 1, A3, c3, by omega, by rw [e1.out, EL.out]; omega, by go_num, by rw [e1.out, EL.out], Lib.hid (by rw [e1.out, EL.out, keysS_snoc]; exact hm6), Lib.hid (by rw [e1.out, EL.out]; exact ho6), hb6⟩
              case measure => simp [intOf]; omega
        · obtain rfl : j = gs.length := by omega
          have e1 := Lib.hid HNX.out.symm
          go_wp2
          go_roundw
          case rel => exact ⟨k + 1, A1, c1, by rw [HNX.out]; omega, by rw [HNX.out]; exact hjm, by go_num, by rw [HNX.out], Lib.hid (by rw [HNX.out]; exact HM.out), Lib.hid (by rw [HNX.out]; exact HO.out), hb⟩
          case measure => simp [intOf]; omega
    · have hke : (clAt gs (roundsS n) k).length = k := by omega
      have e1 := Lib.hid (HEND.out k hke)
      have hkp : 0 < (clAt gs (roundsS n) k).length := clAt_pos k
      obtain ⟨b2, rfl, hb2lo, hb2hi, _, _⟩ := HO.out.at_ hkp
      clear hke
      go_wp2_with fail
      refine (sort_strs HO.out (by omega)).mono ?_; rintro e w3 ⟨rfl, L, hoL, hpL, hsL, hg3⟩
      have hb3 : Below w.heap.size w w3 := hb.grown hg3 hb.size (fun k hk => by injection hk with hk; omega)
      go_wp2
      go_ret2
      rw [e1.out, decide_eq_true hkm]
      exact ⟨_, _, _, rfl, fun _ => ⟨rfl, L, hoL.base_le (Nat.le_succ _), hpL, hsL⟩, fun q => absurd hkm q, hb3⟩
end Go.Proofs.YtmdmnjjlpefigaaGreat
/- The walks of chapter 17: the program's search of a row, a row's powers, its Q-set. -/
namespace Go.Proofs.YtmdmnjjlpefigaaGreat
set_option linter.unusedVariables false
set_option linter.unusedSimpArgs false
open Go.ChangeShapes Go.WideShapes Go.ChangeAt Go.RowKit Go.Deep
theorem first_false (f : Nat → Bool) : ∀ n, f n = false → ∃ k, k ≤ n ∧ (∀ t, t < k → f t = true) ∧ f k = false
  | 0, h => ⟨0, Nat.le_refl _, fun t ht => absurd ht (by omega), h⟩
  | n + 1, h => by
    by_cases hb : ∃ k, k ≤ n ∧ f k = false
    · obtain ⟨j, hj, hf⟩ := hb
      obtain ⟨k, hk, h1, h2⟩ := first_false (fun t => if t < j then f t else false) n (by simp [show ¬ n < j by omega])
      by_cases hkj : k < j
      · refine ⟨k, by omega, fun t ht => ?_, by simpa [hkj] using h2⟩
        have := h1 t ht
        simpa [show t < j by omega] using this
      · refine ⟨j, by omega, fun t ht => ?_, hf⟩
        have := h1 t (by omega)
        simpa [ht] using this
    · refine ⟨n + 1, Nat.le_refl _, fun t ht => ?_, h⟩
      rcases hc : f t with _ | _
      · exact absurd ⟨t, by omega, hc⟩ hb
      · rfl
theorem srt_le {l : List ByteArray} (h : Srt l) {i j : Nat} {x y : ByteArray} (hij : i < j) (hx : l[i]? = some x) (hy : l[j]? = some y) : less y x = false := by
  obtain ⟨h1, e1⟩ := List.getElem?_eq_some_iff.1 hx
  obtain ⟨h2, e2⟩ := List.getElem?_eq_some_iff.1 hy
  have := (List.pairwise_iff_getElem.1 h) i j h1 h2 hij
  rw [e1, e2, leS] at this
  rcases hc : less y x with _ | _
  · rfl
  · rw [hc] at this; cases this
theorem search_in {l : List ByteArray} {s : ByteArray} (h : Srt l) : decide (Lib.bsGo (fun t => less (l.getD t s) s) l.length 0 l.length < l.length ∧ l.getD (Lib.bsGo (fun t => less (l.getD t s) s) l.length 0 l.length) s = s) = inL l s := by
  have hout : ∀ t, l.length ≤ t → less (l.getD t s) s = false := fun t ht => by rw [List.getD, List.getElem?_eq_none ht]; exact less_irr s
  obtain ⟨k, hk, h1, h2⟩ := first_false (fun t => less (l.getD t s) s) l.length (hout _ (Nat.le_refl _))
  have h3 : ∀ t, k ≤ t → less (l.getD t s) s = false := fun t ht => by
    rcases Nat.lt_or_ge t l.length with hl | hl
    · rcases Nat.lt_or_ge k t with hkt | hkt
      · rcases hc : less (l.getD t s) s with _ | _
        · rfl
        · have hy := List.getElem?_eq_getElem hl
          have hx := List.getElem?_eq_getElem (show k < l.length by omega)
          have hle := srt_le h hkt hx hy
          have e1 : l.getD k s = l[k] := by rw [List.getD, hx]; rfl
          have e2 : l.getD t s = l[t] := by rw [List.getD, hy]; rfl
          rw [e1] at h2
          rw [e2] at hc
          rcases less_tri l[k] l[t] with h4 | h4 | h4
          · have := less_trans h4 hc
            rw [h2] at this; cases this
          · rw [h4, hc] at h2; cases h2
          · rw [hle] at h4; cases h4
      · obtain rfl : t = k := by omega
        exact h2
    · exact hout t hl
  rw [Lib.bsGo_spec _ k h1 h3 l.length 0 l.length (by omega) (by omega) hk]
  rw [Bool.eq_iff_iff, decide_eq_true_iff, inL_iff]
  constructor
  · rintro ⟨hl, e⟩
    rw [List.getD, List.getElem?_eq_getElem hl] at e
    rw [← e]; exact List.getElem_mem hl
  · intro hm
    obtain ⟨j, hj⟩ := List.getElem?_of_mem hm
    have hjl := (List.getElem?_eq_some_iff.1 hj).1
    have hkj : k ≤ j := by
      rcases Nat.lt_or_ge j k with hc | hc
      · have := h1 j hc
        rw [List.getD, hj] at this
        have h5 : less s s = true := this
        rw [less_irr] at h5; cases h5
      · exact hc
    refine ⟨by omega, ?_⟩
    rcases Nat.lt_or_ge k j with hc | hc
    · have hx := List.getElem?_eq_getElem (show k < l.length by omega)
      have hle := srt_le h hc hx hj
      have e1 : l.getD k s = l[k] := by rw [List.getD, hx]; rfl
      rw [e1] at h2 ⊢
      rcases less_tri l[k] s with h4 | h4 | h4
      · rw [h2] at h4; cases h4
      · exact h4
      · rw [hle] at h4; cases h4
    · obtain rfl : j = k := by omega
      rw [List.getD, hj]; rfl
theorem search_strs {A : Option Addr} {N c : Nat} {l : List ByteArray} {s : ByteArray} {w : World} (hN : l.length = N) (h : Strs w A l) (hz : N ≤ 16777216) (hs : Srt l) :
    Calls Tryz.prog 27 #[.slice A N c, .string s] w fun e w' => ∃ i : Int, e = .returned (.tuple #[.int .i64 i, .bool (inL l s)]) ∧ ∃ q, w' = w.drewN q := by
  subst hN
  rcases Nat.eq_zero_or_pos l.length with h0 | h0
  · have e := List.eq_nil_of_length_eq_zero h0
    subst e
    refine (Tryz.slices_BinarySearch_string_empty A c s w).mono ?_
    rintro e w' ⟨rfl, rfl⟩
    exact ⟨0, rfl, 0, rfl⟩
  · obtain ⟨b, o, y, rfl, _, _, _⟩ := h.at_str h0
    refine (Tryz.slices_BinarySearch_string b o l.length c (fun t => l.getD t s) s w (by omega) (fun j hj => ?_)).mono ?_
    · obtain ⟨b2, o2, x, e, _, hx, hcx⟩ := h.at_str hj
      injection e with e
      injection e with e1 e2
      subst e1 e2
      rw [hcx, List.getD, hx]; rfl
    · rintro e w' ⟨rfl, hq⟩
      have hin := search_in (s := s) hs
      rw [← hin]
      exact ⟨_, rfl, hq⟩
theorem impl_has {A : Option Addr} {N c : Nat} {l : List ByteArray} {s : ByteArray} {w : World} (hN : l.length = N) (h : Strs w A l) (hz : N ≤ 16777216) (hs : Srt l) :
    Calls Tryz.prog 18 #[.slice A N c, .string s] w fun e w' => e = .returned (.bool (inL l s)) ∧ Below w.heap.size w w' := by
  go_in
  go_wp2_with fail
  refine (search_strs hN h hz hs).mono ?_; rintro e w1 ⟨i, rfl, q, rfl⟩
  go_wp2
  go_ret
  exact ⟨rfl, by (repeat' (first | (with_reducible exact Below.refl _ _) | (with_reducible assumption) | (with_reducible refine below_drewN ?_ _) | (with_reducible refine Below.drew ?_) | (with_reducible refine below_alloc ?_ _) | (with_reducible refine Below.alloc ?_ ?_ _) | (with_reducible refine Below.setCell ?_ ?_ _) | (with_reducible refine below_go ?_ (by with_reducible assumption)) | (with_reducible refine below_then (by with_reducible assumption) ?_ ?_) | go_size))⟩
set_option maxHeartbeats 1000000 in
set_option maxRecDepth 100000 in
theorem impl_powers {a : ByteArray} {n : Nat} {w : World} (hg : RowN n a) :
    Calls Tryz.prog 57 #[.string a] w fun e w' => ∃ m A' c', e = .returned (.slice A' m c') ∧ 1 ≤ m ∧ m ≤ 40320 ∧ pwS n a m = roundsS n ∧ Owned strE 1 9 w' w.heap.size A' m c' (pwL n a m) ∧ Below w.heap.size w w' := by
  obtain ⟨h3, h8⟩ := hg.st
  have h40 : fact n ≤ 40320 := fact_le8 h8
  have hsz := hg.2
  have HG := Lib.hid hg
  have ha16 : a.size ≤ 16777216 := by omega
  clear hg
  go_in
  go_wp2_with (first | (go_at_call 53; refine (impl_rounds h8).mono ?_; rintro e w' ⟨rfl, rfl⟩))
  have ho0 := Lib.hid (own_lit1_at' strE_len w 9 (roundsS n) rfl (Nat.le_refl _))
  go_loopw [3, 4] (fun v p wr => ∃ (k : Nat) (A' : Option Addr) (c' : Nat), 1 ≤ k ∧ v = .slice A' k c' ∧ p = .string (pwS n a k) ∧ Hid (∀ j, 1 ≤ j → j < k → pwS n a j ≠ roundsS n) ∧ Hid (Owned strE 1 9 wr w.heap.size A' k c' (pwL n a k)) ∧ Below w.heap.size w wr) (fun v _ _ => 40321 - slLen v)
  case atStart => exact ⟨1, _, _, Nat.le_refl _, rfl, by rw [pw_one HG.out], Lib.hid (fun j h1 h2 => absurd h1 (by omega)), ho0, by (repeat' (first | (with_reducible exact Below.refl _ _) | (with_reducible assumption) | (with_reducible refine below_drewN ?_ _) | (with_reducible refine Below.drew ?_) | (with_reducible refine below_alloc ?_ _) | (with_reducible refine Below.alloc ?_ ?_ _) | (with_reducible refine Below.setCell ?_ ?_ _) | (with_reducible refine below_go ?_ (by with_reducible assumption)) | (with_reducible refine below_then (by with_reducible assumption) ?_ ?_) | go_size))⟩
  case round =>
    obtain ⟨k, A1, c1, hk, rfl, rfl, HK, HO, hb⟩ := hrel
    have hle : k ≤ 40320 := Nat.le_trans (pwL_le HG.out HK.out) h40
    obtain ⟨b1, rfl, hb1lo, _, gc, _⟩ := HO.out.at_ (by omega)
    have hc0 := gc 0 (roundsS n) 0 _ (by rw [pwL, List.getElem?_map, List.getElem?_range (by omega)]; rfl) rfl
    simp only [Nat.zero_mul, Nat.add_zero] at hc0
    have hpN := pw_row HG.out k
    have HPS := Lib.hid (show pwS n a (k + 1) = timesS (pwS n a k) a from rfl)
    have HLS := Lib.hid (pwL_succ n a k)
    have hft := rowN_fits hpN HG.out
    obtain ⟨p, hp⟩ : ∃ p, p = pwS n a k := ⟨_, rfl⟩
    have HP := Lib.hid hp
    rw [← hp] at hpN hft
    rw [← hp]
    have hps : p.size ≤ 16777216 := by rw [hpN.2]; omega
    clear gc
    by_cases he : p = roundsS n
    · have HE := Lib.hid (show pwS n a k = roundsS n by rw [← hp, he])
      have hbe : (p.toList == (roundsS n).toList) = true := by rw [he]; simp
      clear hp he
      go_wp2
      go_ret
      exact ⟨k, _, _, rfl, hk, hle, HE.out, HO.out, hb⟩
    · have hbe := bytes_ne he
      have HK2 := Lib.hid (show ∀ j, 1 ≤ j → j < k + 1 → pwS n a j ≠ roundsS n from fun j h1 h2 => by
        rcases Nat.lt_or_ge j k with h4 | h4
        · exact HK.out j h1 h4
        · obtain rfl : j = k := by omega
          rw [← hp]; exact he)
      have hle2 : k + 1 ≤ 40320 := Nat.le_trans (pwL_le HG.out HK2.out) h40
      clear hp he
      have hszr := hb.size
      go_wp2_with (first | (at_builtin; go_must ((refine wpList_append_recs Tryz.elStr strE_one rfl (.tmp 18) (.tmp 20) rfl rfl (HO.out.alloc _) rfl (own_lit1_at' strE_len _ 9 p rfl (Nat.le_refl _)).recs rfl ?_ (by decide) ?_ ?_; (focus (first | omega | (simp only [World.size_alloc]; done) | (simp only [World.size_alloc]; omega) | (simp; done) | (simp; omega))); (focus (first | omega | (simp only [World.size_alloc]; done) | (simp only [World.size_alloc]; omega) | (simp; done) | (simp; omega))); intro A3 c3 w6 ho6 hg6 hl6))) | (go_at_call 36; refine (impl_times hps ha16 hft).mono ?_; rintro e w7 ⟨rfl, hb7⟩))
      have hb6 : Below w.heap.size w w6 := (hb.alloc hszr _).trans (grown_base hg6 (by simp; omega) (fun k hk => by injection hk with hk; dsimp only at hk; omega))
      go_roundw
      case rel => exact ⟨k + 1, A3, c3, by omega, rfl, by rw [HPS.out, HP.out], HK2, Lib.hid (by rw [HLS.out, ← HP.out]; exact ho6.up hb7), below_go hb6 hb7⟩
      case measure => simp [slLen]; omega
end Go.Proofs.YtmdmnjjlpefigaaGreat
/- The walks of chapter 17: sorted, leftTimes, setOf. -/
namespace Go.Proofs.YtmdmnjjlpefigaaGreat
set_option linter.unusedVariables false
set_option linter.unusedSimpArgs false
open Go.ChangeShapes Go.WideShapes Go.ChangeAt Go.RowKit Go.Deep
set_option maxRecDepth 100000 in
theorem clone_strs {a : Addr} {N c : Nat} {l : List ByteArray} {w : World} (hN : l.length = N) (h : Strs w (some a) l) (hz : N ≤ 16000000) :
    Calls Tryz.prog 75 #[.slice (some a) N c] w fun e w' => ∃ A' c', e = .returned (.slice A' N c') ∧ Owned strE 1 9 w' w.heap.size A' N c' l ∧ Below w.heap.size w w' := by
  have q22 : ∀ (w : World) (a : Option Addr) (n c n' c' : Nat), (binOp .eql 22 (.slice a n c) (.slice none n' c')).run Tryz.prog w = .ok (.bool a.isNone) w := fun w a n c n' c' => Lib.run_eql_slice_nil w _ _ a n c n' c' Tryz.underlying22
  go_in
  go_wp2_with (first | (at_builtin; go_must ((refine wpList_append_recs Tryz.elStr strE_one rfl (.tmp 5) (.tmp 6) rfl rfl (Owned.empty (E := 9) strE_len w (Nat.le_refl _)) rfl (h.up (by (repeat' (first | (with_reducible exact Below.refl _ _) | (with_reducible assumption) | (with_reducible refine below_drewN ?_ _) | (with_reducible refine Below.drew ?_) | (with_reducible refine below_alloc ?_ _) | (with_reducible refine Below.alloc ?_ ?_ _) | (with_reducible refine Below.setCell ?_ ?_ _) | (with_reducible refine below_go ?_ (by with_reducible assumption)) | (with_reducible refine below_then (by with_reducible assumption) ?_ ?_) | go_size)))) hN ?_ (by decide) ?_ ?_; (focus (first | omega | (simp only [World.size_alloc]; done) | (simp only [World.size_alloc]; omega) | (simp; done) | (simp; omega))); (focus (first | omega | (simp only [World.size_alloc]; done) | (simp only [World.size_alloc]; omega) | (simp; done) | (simp; omega))); intro A2 c2 w2 ho2 hg2 hl2))))
  go_ret
  have hb := lit_app hg2
  rw [Nat.zero_add, List.nil_append] at ho2
  exact ⟨_, _, rfl, ho2, hb⟩
set_option maxRecDepth 100000 in
theorem impl_sorted {a : Addr} {N c : Nat} {l : List ByteArray} {w : World} (hN : l.length = N) (h : Strs w (some a) l) (hz : N ≤ 16000000) (h1 : 1 ≤ N) :
    Calls Tryz.prog 55 #[.slice (some a) N c] w fun e w' => ∃ A' c' L, e = .returned (.slice A' N c') ∧ L.Perm l ∧ Owned strE 1 9 w' w.heap.size A' N c' L ∧ Below w.heap.size w w' := by
  go_in
  go_wp2_with fail
  refine (clone_strs hN h hz).mono ?_; rintro e w1 ⟨A1, c1, rfl, ho, hb⟩
  have HO := Lib.hid ho
  obtain ⟨g, rfl, hg1, hg2, _, _⟩ := ho.at_ (by omega)
  clear ho
  go_wp2_with fail
  refine (sort_strs HO.out (by omega)).mono ?_; rintro e w2 ⟨rfl, L, hoL, hp, _, hgr⟩
  have hb2 : Below w.heap.size w w2 := hb.grown hgr hb.size (fun k hk => by injection hk with hk; omega)
  go_wp2
  go_ret
  exact ⟨_, _, L, rfl, hp, hoL, hb2⟩
set_option maxRecDepth 100000 in
theorem impl_leftTimes {A : Option Addr} {N c n : Nat} {l : List ByteArray} {a : ByteArray} {w : World} (hN : l.length = N) (h : Strs w A l) (hz : N ≤ 1000000) (ha : RowN n a) (hl : ∀ s ∈ l, RowN n s) :
    Calls Tryz.prog 56 #[.string a, .slice A N c] w fun e w' => ∃ A' c', e = .returned (.slice A' N c') ∧ Owned strE 1 9 w' w.heap.size A' N c' (l.map (timesS a)) ∧ Below w.heap.size w w' := by
  subst hN
  have hst := ha.st
  have HA := Lib.hid ha
  have HL := Lib.hid hl
  have ha16 : a.size ≤ 16777216 := by rw [ha.2]; omega
  have HE : Hid (Owned strE 1 9 (w.alloc (.cells #[] 9)) w.heap.size (some ⟨w.heap.size, 0, none⟩) 0 0 ((l.take 0).map (timesS a))) := Lib.hid (Owned.empty (E := 9) strE_len w (Nat.le_refl _))
  clear ha hl
  go_in
  go_wp2
  go_loopw [5, 11] (fun v i wr => ∃ (k : Nat) (A' : Option Addr) (c' : Nat), k ≤ l.length ∧ i = .int .i64 k ∧ v = .slice A' k c' ∧ Hid (Owned strE 1 9 wr w.heap.size A' k c' ((l.take k).map (timesS a))) ∧ Below w.heap.size w wr) (fun _ i _ => l.length - (intOf i).toNat)
  case atStart => exact ⟨0, _, _, Nat.zero_le _, rfl, rfl, HE, by (repeat' (first | (with_reducible exact Below.refl _ _) | (with_reducible assumption) | (with_reducible refine below_drewN ?_ _) | (with_reducible refine Below.drew ?_) | (with_reducible refine below_alloc ?_ _) | (with_reducible refine Below.alloc ?_ ?_ _) | (with_reducible refine Below.setCell ?_ ?_ _) | (with_reducible refine below_go ?_ (by with_reducible assumption)) | (with_reducible refine below_then (by with_reducible assumption) ?_ ?_) | go_size))⟩
  case round =>
    obtain ⟨k, A1, c1, hk, rfl, rfl, HO, hb⟩ := hrel
    have hsz := hb.size
    by_cases hlt : k < l.length
    · obtain ⟨b3, o3, y, rfl, hbb, hy, hcy⟩ := (h.below hb (Nat.le_refl _)).at_str hlt
      have hyN := HL.out y (List.mem_of_getElem? hy)
      have hft := rowN_fits HA.out hyN
      have hys : y.size ≤ 16777216 := by rw [hyN.2]; omega
      have HT := Lib.hid (show (l.take (k + 1)).map (timesS a) = (l.take k).map (timesS a) ++ [timesS a y] by rw [take_succ_some hy, List.map_append]; rfl)
      clear hy hyN
      go_wp2_with fail
      refine (impl_times ha16 hys hft).mono ?_; rintro e w2 ⟨rfl, hb2⟩
      have HO2 := Lib.hid (HO.out.up hb2)
      have hB2 := below_go hb hb2
      have hsz2 := hB2.size
      go_wp2_with (first | (at_builtin; go_must ((refine wpList_append_recs Tryz.elStr strE_one rfl (.tmp 15) (.tmp 19) rfl rfl (HO2.out.alloc _) rfl (own_lit1_at' strE_len _ 9 (timesS a y) rfl (Nat.le_refl _)).recs rfl ?_ (by decide) ?_ ?_; (focus (first | omega | (simp only [World.size_alloc]; done) | (simp only [World.size_alloc]; omega) | (simp; done) | (simp; omega))); (focus (first | omega | (simp only [World.size_alloc]; done) | (simp only [World.size_alloc]; omega) | (simp; done) | (simp; omega))); intro A3 c3 w6 ho6 hg6 hl6))))
      have hb6 : Below w.heap.size w w6 := (hB2.alloc hsz2 _).trans (grown_base hg6 (by simp; omega) (fun z hz => (HO2.out.range z hz).1))
      go_roundw
      case rel => exact ⟨k + 1, A3, c3, by omega, by go_num, by go_num, Lib.hid (by rw [HT.out]; exact ho6), hb6⟩
      case measure => simp [intOf]; omega
    · obtain rfl : k = l.length := by omega
      go_wp2
      go_ret
      have ho := HO.out
      rw [List.take_of_length_le (Nat.le_refl _)] at ho
      exact ⟨_, _, rfl, ho, hb⟩
set_option maxRecDepth 100000 in
theorem impl_setOf {p b q : ByteArray} {G : Option Addr} {gn gc : Nat} {n : Nat} {h : ByteArray} {w : World} (hq : RowN n q) (hh : RowN n h) :
    Calls Tryz.prog 39 #[.agg #[.string p, .string b, .slice G gn gc, .string q], .string h] w fun e w' => ∃ m A' c' L, e = .returned (.slice A' m c') ∧ 1 ≤ m ∧ m ≤ 40320 ∧ pwS n q m = roundsS n ∧ L.Perm ((pwL n q m).map (timesS h)) ∧ Owned strE 1 9 w' w.heap.size A' m c' L ∧ Below w.heap.size w w' := by
  have b0 : Below w.heap.size w (w.alloc (.cells ⟨[.string p, .string b, .slice G gn gc, .string q]⟩ 47)) := by (repeat' (first | (with_reducible exact Below.refl _ _) | (with_reducible assumption) | (with_reducible refine below_drewN ?_ _) | (with_reducible refine Below.drew ?_) | (with_reducible refine below_alloc ?_ _) | (with_reducible refine Below.alloc ?_ ?_ _) | (with_reducible refine Below.setCell ?_ ?_ _) | (with_reducible refine below_go ?_ (by with_reducible assumption)) | (with_reducible refine below_then (by with_reducible assumption) ?_ ?_) | go_size))
  have HQ := Lib.hid hq
  have HH := Lib.hid hh
  clear hq hh
  go_in
  go_wp2_with fail
  refine (impl_powers HQ.out).mono ?_; rintro e w1 ⟨m, A1, c1, rfl, h1, h2, h3, ho1, hb1⟩
  have H1 := Lib.hid ho1
  have H3 := Lib.hid h3
  clear ho1 h3
  go_wp2_with fail
  refine (impl_leftTimes H1.out.len H1.out.recs (by omega) HH.out (fun s hs => by rw [pwL, List.mem_map] at hs; obtain ⟨k, _, rfl⟩ := hs; exact pw_row HQ.out k)).mono ?_; rintro e w2 ⟨A2, c2, rfl, ho2, hb2⟩
  have H2 := Lib.hid ho2
  obtain ⟨g, rfl, _, _, _, _⟩ := ho2.at_ (by omega)
  clear ho2
  go_wp2_with fail
  refine (impl_sorted H2.out.len H2.out.recs (by omega) h1).mono ?_; rintro e w3 ⟨A3, c3, L, rfl, hp, ho3, hb3⟩
  have hB2 := below_go (below_go b0 hb1) hb2
  go_wp2
  go_ret
  exact ⟨m, _, _, L, rfl, h1, h2, H3.out, hp, ho3.base_le hB2.size, below_go hB2 hb3⟩
end Go.Proofs.YtmdmnjjlpefigaaGreat
/- The walks through the odd changes of a list, both sides. -/
namespace Go.Proofs.YtmdmnjjlpefigaaGreat
set_option linter.unusedVariables false
set_option linter.unusedSimpArgs false
open Go.ChangeShapes Go.WideShapes Go.ChangeAt Go.RowKit Go.Deep
theorem wrap_pred {k : Nat} (h0 : 0 < k) (h1 : k ≤ 16777216) : IntKind.i64.wrap ((k : Int) - 1) = ((k - 1 : Nat) : Int) := by
  rw [PlainAid.i64_is]; unfold wrap64; omega
set_option maxRecDepth 100000 in
theorem impl_increasing {A : Option Addr} {N c : Nat} {l : List ByteArray} {w : World} (hN : l.length = N) (h : Strs w A l) (hz : N ≤ 16777216) :
    Calls Tryz.prog 38 #[.slice A N c] w fun e w' => e = .returned (.bool (incB l)) ∧ Below w.heap.size w w' := by
  subst hN
  have HG : Hid (incB l = (List.range l.length).all (okInc l)) := Lib.hid rfl
  go_in
  go_wp2
  go_loopw [3] (fun i wr => ∃ k : Nat, 0 < k ∧ k ≤ l.length + 1 ∧ i = .int .i64 k ∧ Hid (∀ j, j < k → okInc l j = true) ∧ Below w.heap.size w wr) (fun i _ => l.length + 1 - (intOf i).toNat)
  case atStart => exact ⟨1, by omega, by omega, rfl, Lib.hid (fun j hj => (by have : j = 0 := (by omega); subst this; exact okInc_0 l)), Below.refl _ _⟩
  case round =>
    obtain ⟨k, hk0, hk, rfl, HK, hb⟩ := hrel
    by_cases hlt : k < l.length
    · have hr := h.below hb (Nat.le_refl _)
      obtain ⟨b1, o1, y, rfl, hbb, hy, hcy⟩ := hr.at_str hlt
      obtain ⟨b2, o2, x, e, _, hx, hcx⟩ := hr.at_str (k := k - 1) (by omega)
      injection e with e
      injection e with e1 e2
      subst e1 e2
      have E := Lib.hid (okInc_pos hk0 hx hy)
      have hwk := wrap_pred hk0 (by omega)
      have hlt1 : k - 1 < l.length := by omega
      clear h hr hx hy
      rcases hl : less x y
      · obtain ⟨h1, h2⟩ := less_no hl
        clear hl
        have e0 := Lib.hid (show okInc l k = false by rw [E.out]; exact h1)
        rcases h2 with h2 | ⟨h2, h3⟩
        all_goals
          go_wp2
          go_quiet (fail)
          go_wp2
          go_ret
          refine ⟨ret_bool ?_, by (repeat' (first | (with_reducible exact Below.refl _ _) | (with_reducible assumption) | (with_reducible refine below_drewN ?_ _) | (with_reducible refine Below.drew ?_) | (with_reducible refine below_alloc ?_ _) | (with_reducible refine Below.alloc ?_ ?_ _) | (with_reducible refine Below.setCell ?_ ?_ _) | (with_reducible refine below_go ?_ (by with_reducible assumption)) | (with_reducible refine below_then (by with_reducible assumption) ?_ ?_) | go_size))⟩
          rw [HG.out, all_no hlt e0.out]
      · obtain ⟨h1, h2, h3⟩ := less_yes hl
        have e0 := Lib.hid (show okInc l k = true by rw [E.out]; exact hl)
        clear hl
        go_wp2
        go_quiet (fail)
        go_wp2
        go_roundw
        case rel => exact ⟨k + 1, by omega, by omega, by go_num, Lib.hid (upto_succ HK.out e0.out), by (repeat' (first | (with_reducible exact Below.refl _ _) | (with_reducible assumption) | (with_reducible refine below_drewN ?_ _) | (with_reducible refine Below.drew ?_) | (with_reducible refine below_alloc ?_ _) | (with_reducible refine Below.alloc ?_ ?_ _) | (with_reducible refine Below.setCell ?_ ?_ _) | (with_reducible refine below_go ?_ (by with_reducible assumption)) | (with_reducible refine below_then (by with_reducible assumption) ?_ ?_) | go_size))⟩
        case measure => simp [intOf]; omega
    · go_wp2
      go_ret
      refine ⟨ret_bool ?_, hb⟩
      rw [HG.out, all_yes (fun j hj => HK.out j (by omega))]
end Go.Proofs.YtmdmnjjlpefigaaGreat
/- The walks of chapter 17: the bobs, both sides. -/
namespace Go.Proofs.YtmdmnjjlpefigaaGreat
set_option linter.unusedVariables false
set_option linter.unusedSimpArgs false
open Go.ChangeShapes Go.WideShapes Go.ChangeAt Go.RowKit Go.Deep
theorem closed_one {n m : Nat} {q x : ByteArray} {B : List ByteArray} (hq : RowN n q) (hx : x ∈ B) (hxN : RowN n x) (hm : 1 ≤ m) (hr : pwS n q m = roundsS n) (h : ∀ y ∈ (pwL n q m).map (timesS x), y ∈ B) : timesS x q ∈ B := by
  by_cases h1 : 1 < m
  · have := h (timesS x (pwS n q 1)) (List.mem_map_of_mem (by rw [pwL, List.mem_map]; exact ⟨1, List.mem_range.2 h1, rfl⟩))
    rwa [pw_one hq] at this
  · obtain rfl : m = 1 := by omega
    have h2 := times_rounds hxN.1
    rw [hxN.2] at h2
    rw [← pw_one hq, hr, h2]; exact hx
theorem closed_not {n m : Nat} {q x y : ByteArray} {B : List ByteArray} (hq : RowN n q) (hB : ∀ h ∈ B, RowN n h) (hx : x ∈ B) (hy : y ∈ (pwL n q m).map (timesS x)) (hn : y ∉ B) : closedB q B = false := by
  rcases hc : closedB q B with _ | _
  · rfl
  · rw [List.mem_map] at hy
    obtain ⟨z, hz, rfl⟩ := hy
    rw [pwL, List.mem_map] at hz
    obtain ⟨k, _, rfl⟩ := hz
    exact absurd (closed_pw hq hB hc hx k) hn
theorem closed_yes {q : ByteArray} {B : List ByteArray} (h : ∀ (j : Nat) (x : ByteArray), B[j]? = some x → timesS x q ∈ B) : closedB q B = true := by
  rw [closedB, List.all_eq_true]
  intro x hx
  obtain ⟨j, hj⟩ := List.getElem?_of_mem hx
  exact inL_iff.2 (h j x hj)
theorem closed_bad {q x : ByteArray} {B : List ByteArray} (hx : x ∈ B) (h : timesS x q ∉ B) : closedB q B = false := by
  rcases hc : closedB q B with _ | _
  · rfl
  · exact absurd (inL_iff.1 (List.all_eq_true.1 hc x hx)) h
theorem in_yes {L B : List ByteArray} (h : ∀ (j : Nat) (x : ByteArray), B[j]? = some x → inL L x = true) : B.all (inL L) = true := by
  rw [List.all_eq_true]
  intro x hx
  obtain ⟨j, hj⟩ := List.getElem?_of_mem hx
  exact h j x hj
theorem in_bad {L B : List ByteArray} {x : ByteArray} (hx : x ∈ B) (h : inL L x = false) : B.all (inL L) = false := by
  rcases hc : B.all (inL L) with _ | _
  · rfl
  · rw [List.all_eq_true.1 hc x hx] at h; cases h
theorem upto_more {B : List ByteArray} {P : ByteArray → Prop} {k : Nat} {y : ByteArray} (h : ∀ j x, j < k → B[j]? = some x → P x) (hy : B[k]? = some y) (hp : P y) : ∀ j x, j < k + 1 → B[j]? = some x → P x := fun j x hj hx => by
  rcases Nat.lt_or_ge j k with h1 | h1
  · exact h j x h1 hx
  · obtain rfl : j = k := by omega
    rw [hy] at hx; injection hx with hx; rw [← hx]; exact hp
/-- The next head of a row. -/
def nextS (p b : ByteArray) (B : List ByteArray) (h : ByteArray) : ByteArray := if inL B h = true then timesS h b else timesS h p
theorem nextS_t {p b : ByteArray} {B : List ByteArray} {h : ByteArray} (e : inL B h = true) : nextS p b B h = timesS h b := if_pos e
theorem nextS_f {p b : ByteArray} {B : List ByteArray} {h : ByteArray} (e : inL B h = false) : nextS p b B h = timesS h p := if_neg (by rw [e]; simp)
theorem inc_bad {B : List ByteArray} {k : Nat} (hk : k < B.length) (h : okInc B k = false) : incB B = false := all_no hk h
set_option maxRecDepth 100000 in
theorem impl_inGroup {p b q : ByteArray} {G : Option Addr} {gn gc : Nat} {L B : List ByteArray} {A : Option Addr} {N c : Nat} {w : World} (hL : L.length = gn) (hG : Strs w G L) (hLz : gn ≤ 16777216) (hLs : Srt L) (hN : B.length = N) (h : Strs w A B) (hz : N ≤ 16777216) :
    Calls Tryz.prog 25 #[.agg #[.string p, .string b, .slice G gn gc, .string q], .slice A N c] w fun e w' => e = .returned (.bool (rowsInB L B)) ∧ Below w.heap.size w w' := by
  subst hN
  have b0 : Below w.heap.size w (w.alloc (.cells ⟨[.string p, .string b, .slice G gn gc, .string q]⟩ 47)) := by (repeat' (first | (with_reducible exact Below.refl _ _) | (with_reducible assumption) | (with_reducible refine below_drewN ?_ _) | (with_reducible refine Below.drew ?_) | (with_reducible refine below_alloc ?_ _) | (with_reducible refine Below.alloc ?_ ?_ _) | (with_reducible refine Below.setCell ?_ ?_ _) | (with_reducible refine below_go ?_ (by with_reducible assumption)) | (with_reducible refine below_then (by with_reducible assumption) ?_ ?_) | go_size))
  have K0 := Blk.at_ w 47 [.string p, .string b, .slice G gn gc, .string q] (b := w.heap.size) rfl
  have HR : Hid (rowsInB L B = (B.all (inL L) && incB B)) := Lib.hid rfl
  have HS := Lib.hid hLs
  clear hLs
  go_in
  go_upto_region 1 with fail
  obtain ⟨w1, hw1⟩ : ∃ u, u = (w.alloc (.cells #[.string p, .string b, .slice G gn gc, .string q] 47)) := ⟨_, rfl⟩
  rw [← hw1] at b0 K0 ⊢
  clear hw1
  have carry : Hid (∀ u : World, Below w1.heap.size w1 u → u.cell? ⟨w.heap.size, 2, none⟩ = some (.slice G gn gc)) := Lib.hid (fun u hu => by
    have L0 := K0.up hu
    simpa using L0.cell 2)
  have HG := Lib.hid (hG.up b0)
  have HB := Lib.hid (h.up b0)
  clear K0 hG h
  go_wp2
  go_loopw [9] (fun i wr => ∃ k : Nat, k ≤ B.length ∧ i = .int .i64 k ∧ Hid (∀ j x, j < k → B[j]? = some x → inL L x = true) ∧ Below w1.heap.size w1 wr) (fun i _ => B.length - (intOf i).toNat)
  case atStart => exact ⟨0, Nat.zero_le _, rfl, Lib.hid (fun j x hj _ => absurd hj (by omega)), Below.refl _ _⟩
  case round =>
    obtain ⟨k, hk, rfl, HK, hb⟩ := hrel
    by_cases hlt : k < B.length
    · obtain ⟨b1, o1, y, rfl, hbb, hy, hcy⟩ := (HB.out.below hb (Nat.le_refl _)).at_str hlt
      have c2 := carry.out _ hb
      have HY := Lib.hid hy
      clear hy
      go_wp2_with fail
      refine (impl_has hL (HG.out.below hb (Nat.le_refl _)) hLz HS.out).mono ?_; rintro e w2 ⟨rfl, hb2⟩
      have hB2 : Below w1.heap.size w1 w2 := hb.trans (hb2.mono hb.size)
      rcases hin : inL L y
      · have e0 := Lib.hid (show rowsInB L B = false by rw [HR.out, in_bad (List.mem_of_getElem? HY.out) hin]; rfl)
        clear hin
        go_wp2
        go_ret
        exact ⟨ret_bool e0.out.symm, below_go b0 hB2⟩
      · have HK2 := Lib.hid (upto_more (P := fun x => inL L x = true) HK.out HY.out hin)
        clear hin
        go_wp2
        go_roundw
        case rel => exact ⟨k + 1, by omega, by go_num, HK2, hB2⟩
        case measure => simp [intOf]; omega
    · obtain rfl : k = B.length := by omega
      have e0 := Lib.hid (show rowsInB L B = incB B by rw [HR.out, in_yes (fun j x hx => HK.out j x (List.getElem?_eq_some_iff.1 hx).1 hx), Bool.true_and])
      go_wp2_with fail
      refine (impl_increasing rfl (HB.out.below hb (Nat.le_refl _)) hz).mono ?_; rintro e w2 ⟨rfl, hb2⟩
      go_wp2
      go_ret
      exact ⟨ret_bool e0.out.symm, below_go b0 (hb.trans (hb2.mono hb.size))⟩
set_option maxHeartbeats 1000000 in
set_option maxRecDepth 100000 in
theorem impl_areBobs {p b q : ByteArray} {G : Option Addr} {gn gc : Nat} {B : List ByteArray} {A : Option Addr} {N c n : Nat} {w : World} (hq : RowN n q) (hN : B.length = N) (h : Strs w A B) (hz : N ≤ 16777216) (hBN : ∀ s ∈ B, RowN n s) (hs : Srt B) :
    Calls Tryz.prog 26 #[.agg #[.string p, .string b, .slice G gn gc, .string q], .slice A N c] w fun e w' => e = .returned (.bool (closedB q B)) ∧ Below w.heap.size w w' := by
  subst hN
  have b0 : Below w.heap.size w (w.alloc (.cells ⟨[.string p, .string b, .slice G gn gc, .string q]⟩ 47)) := by (repeat' (first | (with_reducible exact Below.refl _ _) | (with_reducible assumption) | (with_reducible refine below_drewN ?_ _) | (with_reducible refine Below.drew ?_) | (with_reducible refine below_alloc ?_ _) | (with_reducible refine Below.alloc ?_ ?_ _) | (with_reducible refine Below.setCell ?_ ?_ _) | (with_reducible refine below_go ?_ (by with_reducible assumption)) | (with_reducible refine below_then (by with_reducible assumption) ?_ ?_) | go_size))
  have K0 := Blk.at_ w 47 [.string p, .string b, .slice G gn gc, .string q] (b := w.heap.size) rfl
  have HS := Lib.hid hs
  have HQ := Lib.hid hq
  have HBN := Lib.hid hBN
  clear hs hq hBN
  go_in
  go_upto_region 1 with fail
  obtain ⟨w1, hw1⟩ : ∃ u, u = (w.alloc (.cells #[.string p, .string b, .slice G gn gc, .string q] 47)) := ⟨_, rfl⟩
  rw [← hw1] at b0 K0 ⊢
  clear hw1
  have carry : Hid (∀ u : World, Below w1.heap.size w1 u → u.cell? ⟨w.heap.size, 0, none⟩ = some (.string p) ∧ u.cell? ⟨w.heap.size, 1, none⟩ = some (.string b) ∧ u.cell? ⟨w.heap.size, 2, none⟩ = some (.slice G gn gc) ∧ u.cell? ⟨w.heap.size, 3, none⟩ = some (.string q)) := Lib.hid (fun u hu => by
    have L0 := K0.up hu
    exact ⟨by simpa using L0.cell 0, by simpa using L0.cell 1, by simpa using L0.cell 2, by simpa using L0.cell 3⟩)
  have HB := Lib.hid (h.up b0)
  clear K0 h
  go_wp2
  go_loopw [11] (fun i wr => ∃ k : Nat, k ≤ B.length ∧ i = .int .i64 k ∧ Hid (∀ j x, j < k → B[j]? = some x → timesS x q ∈ B) ∧ Below w1.heap.size w1 wr) (fun i _ => B.length - (intOf i).toNat)
  case atStart => exact ⟨0, Nat.zero_le _, rfl, Lib.hid (fun j x hj _ => absurd hj (by omega)), Below.refl _ _⟩
  case round =>
    obtain ⟨k, hk, rfl, HK, hb⟩ := hrel
    by_cases hlt : k < B.length
    · obtain ⟨b1, o1, y, rfl, hbb, hy, hcy⟩ := (HB.out.below hb (Nat.le_refl _)).at_str hlt
      obtain ⟨c0, c1, c2, c3⟩ := carry.out _ hb
      have HY := Lib.hid hy
      have HYN := Lib.hid (HBN.out y (List.mem_of_getElem? hy))
      clear hy
      go_wp2_with fail
      refine (impl_setOf HQ.out HYN.out).mono ?_; rintro e w2 ⟨m, A2, c2', T, rfl, hm1, hm2, hm3, hp, ho, hb2⟩
      have hB2 : Below w1.heap.size w1 w2 := hb.trans (hb2.mono hb.size)
      have HM3 := Lib.hid hm3
      have HP := Lib.hid hp
      have HO := Lib.hid ho
      clear hm3 hp ho c0 c1 c2 c3 hcy
      go_wp2
      go_loopw [19] (fun i wr => ∃ j : Nat, j ≤ m ∧ i = .int .i64 j ∧ Hid (∀ i x, i < j → T[i]? = some x → x ∈ B) ∧ Below w2.heap.size w2 wr) (fun i _ => m - (intOf i).toNat)
      case atStart => exact ⟨0, Nat.zero_le _, rfl, Lib.hid (fun j x hj _ => absurd hj (by omega)), Below.refl _ _⟩
      case round =>
        obtain ⟨j, hj, rfl, HJ, hbj⟩ := hrel
        have hBj : Below w1.heap.size w1 _ := hB2.trans (hbj.mono hB2.size)
        by_cases hlj : j < m
        · obtain ⟨b3, o3, z, rfl, hbz, hz', hcz⟩ := (HO.out.recs.below hbj (Nat.le_refl _)).at_str (k := j) (by rw [HO.out.len]; exact hlj)
          have HZ := Lib.hid hz'
          clear hz'
          go_wp2_with fail
          refine (impl_has rfl (HB.out.below hBj (Nat.le_refl _)) hz HS.out).mono ?_; rintro e w4 ⟨rfl, hb4⟩
          rcases hin : inL B z
          · have e0 := Lib.hid (show closedB q B = false from closed_not HQ.out HBN.out (List.mem_of_getElem? HY.out) (HP.out.mem_iff.1 (List.mem_of_getElem? HZ.out)) (fun hc => by rw [inL_iff.2 hc] at hin; cases hin))
            clear hin
            go_wp2
            go_ret
            exact ⟨ret_bool e0.out.symm, below_go b0 (hBj.trans (hb4.mono hBj.size))⟩
          · have HJ2 := Lib.hid (upto_more (P := fun x => x ∈ B) HJ.out HZ.out (inL_iff.1 hin))
            clear hin
            go_wp2
            go_roundw
            case rel => exact ⟨j + 1, by omega, by go_num, HJ2, hbj.trans (hb4.mono hbj.size)⟩
            case measure => simp [intOf]; omega
        · obtain rfl : j = m := by omega
          have hcl := closed_one HQ.out (List.mem_of_getElem? HY.out) HYN.out hm1 HM3.out (fun y' hy' => by
            obtain ⟨i, hi⟩ := List.getElem?_of_mem (HP.out.mem_iff.2 hy')
            have := (List.getElem?_eq_some_iff.1 hi).1
            rw [HO.out.len] at this
            exact HJ.out i y' this hi)
          have HK2 := Lib.hid (upto_more (P := fun x => timesS x q ∈ B) HK.out HY.out hcl)
          clear hcl
          go_wp2
          go_roundw
          case rel => exact ⟨k + 1, by omega, by go_num, HK2, hBj⟩
          case measure => simp [intOf]; omega
    · obtain rfl : k = B.length := by omega
      have e0 := Lib.hid (closed_yes (q := q) (fun j x hx => HK.out j x (List.getElem?_eq_some_iff.1 hx).1 hx))
      go_wp2
      go_ret
      exact ⟨ret_bool e0.out.symm, below_go b0 hb⟩
set_option maxRecDepth 100000 in
theorem impl_next {p b q : ByteArray} {G : Option Addr} {gn gc : Nat} {B : List ByteArray} {h : ByteArray} {A : Option Addr} {N c n : Nat} {w : World} (hp : RowN n p) (hb : RowN n b) (hh : RowN n h) (hN : B.length = N) (hB : Strs w A B) (hz : N ≤ 16777216) (hs : Srt B) :
    Calls Tryz.prog 28 #[.agg #[.string p, .string b, .slice G gn gc, .string q], .slice A N c, .string h] w fun e w' => e = .returned (.string (nextS p b B h)) ∧ Below w.heap.size w w' := by
  have b0 : Below w.heap.size w (w.alloc (.cells ⟨[.string p, .string b, .slice G gn gc, .string q]⟩ 47)) := by (repeat' (first | (with_reducible exact Below.refl _ _) | (with_reducible assumption) | (with_reducible refine below_drewN ?_ _) | (with_reducible refine Below.drew ?_) | (with_reducible refine below_alloc ?_ _) | (with_reducible refine Below.alloc ?_ ?_ _) | (with_reducible refine Below.setCell ?_ ?_ _) | (with_reducible refine below_go ?_ (by with_reducible assumption)) | (with_reducible refine below_then (by with_reducible assumption) ?_ ?_) | go_size))
  have K0 := Blk.at_ w 47 [.string p, .string b, .slice G gn gc, .string q] (b := w.heap.size) rfl
  have hst := hp.st
  have h1 : h.size ≤ 16777216 := by rw [hh.2]; omega
  have h2 : p.size ≤ 16777216 := by rw [hp.2]; omega
  have h3 : b.size ≤ 16777216 := by rw [hb.2]; omega
  have f1 := rowN_fits hh hp
  have f2 := rowN_fits hh hb
  go_in
  go_upto_region 1 with fail
  obtain ⟨w1, hw1⟩ : ∃ u, u = (w.alloc (.cells #[.string p, .string b, .slice G gn gc, .string q] 47)) := ⟨_, rfl⟩
  rw [← hw1] at b0 K0 ⊢
  clear hw1
  go_wp2_with fail
  refine (impl_has hN (hB.up b0) hz hs).mono ?_; rintro e w2 ⟨rfl, hb2⟩
  have L0 := K0.up hb2
  have c0 : w2.cell? ⟨w.heap.size, 0, none⟩ = some (.string p) := by simpa using L0.cell 0
  have c1 : w2.cell? ⟨w.heap.size, 1, none⟩ = some (.string b) := by simpa using L0.cell 1
  have hB2 := below_go b0 hb2
  clear L0 K0
  rcases hin : inL B h
  · have e0 := Lib.hid (nextS_f (p := p) (b := b) hin)
    go_wp2_with (first | (go_at_call 36; refine (impl_times h1 h2 f1).mono ?_; rintro e w3 ⟨rfl, hb3⟩))
    go_ret
    rw [e0.out]
    exact ⟨rfl, below_go hB2 hb3⟩
  · have e0 := Lib.hid (nextS_t (p := p) (b := b) hin)
    go_wp2_with (first | (go_at_call 36; refine (impl_times h1 h3 f2).mono ?_; rintro e w3 ⟨rfl, hb3⟩))
    go_ret
    rw [e0.out]
    exact ⟨rfl, below_go hB2 hb3⟩
end Go.Proofs.YtmdmnjjlpefigaaGreat
/- Plain laws of rings: the next head is one-to-one where bobs are closed, so a ring comes back to its first row. -/
namespace Go.Proofs.YtmdmnjjlpefigaaGreat
set_option linter.unusedVariables false
set_option linter.unusedSimpArgs false
open Go.ChangeShapes Go.WideShapes Go.ChangeAt Go.RowKit Go.Deep
theorem turn_ex {a : ByteArray} (h : goodRow a = true) : ∃ m, TurnOf a m := by
  refine ⟨(List.range a.size).map fun (j : Nat) => (49 : Int) + (((nums a).idxOf (49 + (j : Int)) : Nat) : Int), by simp, fun i hi => ?_⟩
  have h1 := row_at h hi
  rw [List.getElem?_map, List.getElem?_range (by omega)]
  have h2 := nums_at hi
  have hl : i < (nums a).length := by rw [nums_len]; exact hi
  have h3 : (nums a).idxOf (PlainAid.bt a i) = i := by
    rw [List.getElem?_eq_getElem hl] at h2
    injection h2 with h2
    rw [← h2]
    exact (goodRow_list h).1.idxOf_getElem i hl
  simp only [Option.map_some]
  rw [show (49 : Int) + ((PlainAid.bt a i - 49).toNat : Nat) = PlainAid.bt a i by omega, h3]
theorem turn_rowN {a : ByteArray} {n : Nat} (h : RowN n a) : RowN n (turnS a) := by
  obtain ⟨m, hm⟩ := turn_ex h.1
  have := turn_row h.1 hm
  rwa [h.2] at this
theorem times_turn {a : ByteArray} {n : Nat} (h : RowN n a) : timesS a (turnS a) = roundsS n := by
  have ht := turn_rowN h
  have hs := h.st
  obtain ⟨m, hm⟩ := turn_ex h.1
  have hr := turn_row h.1 hm
  have hb : ∀ x ∈ m, 0 ≤ x ∧ x < 256 := by
    intro x hx
    obtain ⟨j, hj⟩ := List.getElem?_of_mem hx
    have hl := (List.getElem?_eq_some_iff.1 hj).1
    rw [hm.1] at hl
    obtain ⟨i, hi, e⟩ := row_hit h.1 hl
    have h1 := hm.2 i hi
    rw [e, show ((49 : Int) + (j : Int) - 49).toNat = j by omega, hj] at h1
    injection h1 with h1
    rw [h.2] at hi
    omega
  refine row_ext (by rw [(h.times ht).2, rounds_size n (by omega)]) fun k hk => ?_
  rw [(h.times ht).2] at hk
  rw [times_at h ht hk, rounds_bt (by omega) hk]
  obtain ⟨i, hi, e⟩ := row_hit h.1 (j := k) (by rw [h.2]; exact hk)
  have h1 := hm.2 i hi
  rw [e, show ((49 : Int) + (k : Int) - 49).toNat = k by omega] at h1
  have h2 := nums_at (s := turnS a) (k := k) (by rw [ht.2]; exact hk)
  rw [turn_eq h.1 hm, nums_strOf hb, h1] at h2
  injection h2 with h2
  rw [turn_eq h.1 hm, ← h2, show ((49 : Int) + (i : Int) - 49).toNat = i by omega, e]
theorem times_back {x b : ByteArray} {n : Nat} (hx : RowN n x) (hb : RowN n b) : timesS (timesS x b) (turnS b) = x := by
  have ht := turn_rowN hb
  rw [← times_assoc hx.1 hb.1 ht.1 (by rw [hx.2, hb.2]) (by rw [hb.2, ht.2]), times_turn hb]
  have := times_rounds hx.1
  rwa [hx.2] at this
theorem pw_comm {n : Nat} {q : ByteArray} (hq : RowN n q) : ∀ k, timesS q (pwS n q k) = pwS n q (k + 1)
  | 0 => by
    have := times_rounds hq.1
    rw [hq.2] at this
    rw [pw_one hq]; exact this
  | k + 1 => by
    have hp := pw_row hq k
    rw [pwS, times_assoc hq.1 hp.1 hq.1 (by rw [hq.2, hp.2]) (by rw [hp.2, hq.2]), pw_comm hq k]; rfl
theorem pw_back {n : Nat} {q : ByteArray} (hq : RowN n q) : ∃ m, 1 ≤ m ∧ pwS n q m = roundsS n := by
  refine Classical.byContradiction fun hc => ?_
  have := pwL_le (m := fact n + 1) hq (fun k h1 _ e => hc ⟨k, h1, e⟩)
  omega
/-- A row whose next one by q is a bob is one itself. -/
theorem closed_back {n : Nat} {q y : ByteArray} {B : List ByteArray} (hq : RowN n q) (hB : ∀ h ∈ B, RowN n h) (hc : closedB q B = true) (hy : RowN n y) (h : timesS y q ∈ B) : y ∈ B := by
  obtain ⟨m, h1, hm⟩ := pw_back hq
  obtain ⟨k, rfl⟩ : ∃ k, m = k + 1 := ⟨m - 1, by omega⟩
  have hp := pw_row hq k
  have h2 := closed_pw hq hB hc h k
  rw [← times_assoc hy.1 hq.1 hp.1 (by rw [hy.2, hq.2]) (by rw [hq.2, hp.2]), pw_comm hq, hm] at h2
  have h3 := times_rounds hy.1
  rw [hy.2] at h3
  rwa [h3] at h2
theorem nxt_row {n : Nat} {p b h : ByteArray} {B : List ByteArray} (hp : RowN n p) (hb : RowN n b) (hh : RowN n h) : RowN n (nextS p b B h) := by
  rcases e : inL B h
  · rw [nextS_f e]; exact hh.times hp
  · rw [nextS_t e]; exact hh.times hb
theorem nxt_half {n : Nat} {p b x y : ByteArray} {B : List ByteArray} (hp : RowN n p) (hb : RowN n b) (hB : ∀ h ∈ B, RowN n h) (hc : closedB (timesS p (turnS b)) B = true) (hx : RowN n x) (hy : RowN n y) (ex : inL B x = true) (ey : inL B y = false) : timesS x b ≠ timesS y p := by
  intro e
  have hq := hp.times (turn_rowN hb)
  have h1 := times_back hx hb
  have ht := turn_rowN hb
  rw [e, ← times_assoc hy.1 hp.1 ht.1 (by rw [hy.2, hp.2]) (by rw [hp.2, ht.2])] at h1
  have h2 := closed_back hq hB hc hy (by rw [h1]; exact inL_iff.1 ex)
  rw [inL_iff.2 h2] at ey; cases ey
theorem nxt_inj {n : Nat} {p b x y : ByteArray} {B : List ByteArray} (hp : RowN n p) (hb : RowN n b) (hB : ∀ h ∈ B, RowN n h) (hc : closedB (timesS p (turnS b)) B = true) (hx : RowN n x) (hy : RowN n y) (e : nextS p b B x = nextS p b B y) : x = y := by
  rcases ex : inL B x <;> rcases ey : inL B y
  · rw [nextS_f ex, nextS_f ey] at e; exact times_cancel hx hy hp e
  · rw [nextS_f ex, nextS_t ey] at e; exact absurd e.symm (nxt_half hp hb hB hc hy hx ey ex)
  · rw [nextS_t ex, nextS_f ey] at e; exact absurd e (nxt_half hp hb hB hc hx hy ex ey)
  · rw [nextS_t ex, nextS_t ey] at e; exact times_cancel hx hy hb e
/-- The heads behind a row. -/
def nxK (p b : ByteArray) (B : List ByteArray) (h : ByteArray) : Nat → ByteArray
  | 0 => h
  | k + 1 => nextS p b B (nxK p b B h k)
theorem nxK_row {n : Nat} {p b h : ByteArray} {B : List ByteArray} (hp : RowN n p) (hb : RowN n b) (hh : RowN n h) : ∀ k, RowN n (nxK p b B h k)
  | 0 => hh
  | k + 1 => nxt_row hp hb (nxK_row hp hb hh k)
def ringL (p b : ByteArray) (B : List ByteArray) (h : ByteArray) (m : Nat) : List ByteArray := (List.range m).map (nxK p b B h)
theorem ringL_len (p b : ByteArray) (B : List ByteArray) (h : ByteArray) (m : Nat) : (ringL p b B h m).length = m := by simp [ringL]
theorem ringL_one (p b : ByteArray) (B : List ByteArray) (h : ByteArray) : ringL p b B h 1 = [h] := rfl
theorem ringL_succ (p b : ByteArray) (B : List ByteArray) (h : ByteArray) (m : Nat) : ringL p b B h (m + 1) = ringL p b B h m ++ [nxK p b B h m] := by rw [ringL, List.range_succ, List.map_append]; rfl
theorem ringL_row {n : Nat} {p b h : ByteArray} {B : List ByteArray} (hp : RowN n p) (hb : RowN n b) (hh : RowN n h) {m : Nat} : ∀ s ∈ ringL p b B h m, RowN n s := fun s hs => by
  rw [ringL, List.mem_map] at hs
  obtain ⟨k, _, rfl⟩ := hs
  exact nxK_row hp hb hh k
/-- How long the ring of a row is. -/
def RingM (p b : ByteArray) (B : List ByteArray) (h : ByteArray) (m : Nat) : Prop := 1 ≤ m ∧ nxK p b B h m = h ∧ ∀ k, 1 ≤ k → k < m → nxK p b B h k ≠ h
theorem RingM.uniq {p b h : ByteArray} {B : List ByteArray} {m k : Nat} (hm : RingM p b B h m) (hk : RingM p b B h k) : m = k := by
  rcases Nat.lt_trichotomy m k with e | e | e
  · exact absurd hm.2.1 (hk.2.2 m hm.1 e)
  · exact e
  · exact absurd hk.2.1 (hm.2.2 k hk.1 e)
theorem nxK_back {n : Nat} {p b h : ByteArray} {B : List ByteArray} (hp : RowN n p) (hb : RowN n b) (hB : ∀ h ∈ B, RowN n h) (hc : closedB (timesS p (turnS b)) B = true) (hh : RowN n h) : ∀ i d, nxK p b B h i = nxK p b B h (i + d) → nxK p b B h d = h
  | 0, d, e => by rw [Nat.zero_add] at e; exact e.symm
  | i + 1, d, e => by
    rw [Nat.add_right_comm] at e
    exact nxK_back hp hb hB hc hh i d (nxt_inj hp hb hB hc (nxK_row hp hb hh i) (nxK_row hp hb hh (i + d)) e)
theorem ring_le {n : Nat} {p b h : ByteArray} {B : List ByteArray} (hp : RowN n p) (hb : RowN n b) (hB : ∀ h ∈ B, RowN n h) (hc : closedB (timesS p (turnS b)) B = true) (hh : RowN n h) {m : Nat} (hm : ∀ k, 1 ≤ k → k < m → nxK p b B h k ≠ h) : m ≤ fact n := by
  have h1 : (ringL p b B h m).Nodup := by
    rw [ringL]; refine nodup_of ?_
    intro i j hij hj hc'
    rw [List.length_map, List.length_range] at hj
    rw [List.getElem?_map, List.getElem?_map, List.getElem?_range (by omega), List.getElem?_range hj] at hc'
    injection hc' with hc'
    exact hm (j - i) (by omega) (by omega) (nxK_back hp hb hB hc hh i (j - i) (by rw [hc', show i + (j - i) = j by omega]))
  have h2 := rows_le h1 (n := n) (ringL_row hp hb hh)
  rwa [ringL_len] at h2
theorem ring_ex {n : Nat} {p b h : ByteArray} {B : List ByteArray} (hp : RowN n p) (hb : RowN n b) (hB : ∀ h ∈ B, RowN n h) (hc : closedB (timesS p (turnS b)) B = true) (hh : RowN n h) : ∃ m, RingM p b B h m ∧ m ≤ 40320 := by
  have hf := fact_le8 hp.st.2
  have hex : ∃ m, 1 ≤ m ∧ nxK p b B h m = h := by
    refine Classical.byContradiction fun hcc => ?_
    have := ring_le hp hb hB hc hh (m := fact n + 1) (fun k h1 _ e => hcc ⟨k, h1, e⟩)
    omega
  obtain ⟨m, h1, h2⟩ := hex
  have key : ∀ d m, m ≤ d → 1 ≤ m → nxK p b B h m = h → ∃ k, RingM p b B h k := by
    intro d
    induction d with
    | zero => intro m h0 h1 _; omega
    | succ d ih =>
      intro m h0 h1 h2
      by_cases hx : ∃ k, 1 ≤ k ∧ k < m ∧ nxK p b B h k = h
      · obtain ⟨k, a1, a2, a3⟩ := hx
        exact ih k (by omega) a1 a3
      · exact ⟨m, h1, h2, fun k a1 a2 a3 => hx ⟨k, a1, a2, a3⟩⟩
  obtain ⟨k, hk⟩ := key m m (Nat.le_refl _) h1 h2
  exact ⟨k, hk, Nat.le_trans (ring_le hp hb hB hc hh hk.2.2) hf⟩
/-- The letters of the leads of a ring. -/
def rgC (B : List ByteArray) (r : ByteArray) : ByteArray := if inL B r = true then ⟨#[98]⟩ else ⟨#[112]⟩
theorem rgC_t {B : List ByteArray} {r : ByteArray} (h : inL B r = true) : rgC B r = ⟨#[98]⟩ := if_pos h
theorem rgC_f {B : List ByteArray} {r : ByteArray} (h : inL B r = false) : rgC B r = ⟨#[112]⟩ := if_neg (by rw [h]; simp)
theorem rgC_size (B : List ByteArray) (r : ByteArray) : (rgC B r).size = 1 := by
  rcases e : inL B r
  · rw [rgC_f e]; rfl
  · rw [rgC_t e]; rfl
def rgS (B L : List ByteArray) (k : Nat) : ByteArray := (L.take k).foldl (fun t r => t ++ rgC B r) ⟨#[]⟩
theorem rgS_0 (B L : List ByteArray) : rgS B L 0 = ⟨#[]⟩ := rfl
theorem rgS_succ {B L : List ByteArray} {k : Nat} {r : ByteArray} (h : L[k]? = some r) : rgS B L (k + 1) = rgS B L k ++ rgC B r := by
  rw [rgS, take_succ_some h, List.foldl_append]; rfl
theorem rgS_size {B L : List ByteArray} : ∀ {k : Nat}, k ≤ L.length → (rgS B L k).size = k
  | 0, _ => rfl
  | k + 1, h => by
    rw [rgS_succ (List.getElem?_eq_getElem (by omega)), ByteArray.size_append, rgS_size (by omega), rgC_size]
end Go.Proofs.YtmdmnjjlpefigaaGreat
