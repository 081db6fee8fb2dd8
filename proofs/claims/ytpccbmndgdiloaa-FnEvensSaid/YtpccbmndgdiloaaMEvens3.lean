/- Texts 3 of 7 that the claim leans on: plain laws and the walks' contracts, in order. -/
import Derived.Test.YtpccbmndgdiloaaMEvens2
import Derived.BigRegion
/- The walks through changes, the program's side. -/
namespace Go.Proofs.Ytpccbmndgdiloaa
set_option linter.unusedVariables false
set_option linter.unusedSimpArgs false
open Go.ChangeShapes Go.WideShapes Go.ChangeAt Go.RowKit Go.Deep
set_option maxRecDepth 100000 in
theorem impl_places {c : ByteArray} {w : World} (hz : c.size ≤ 16777216) :
    Calls Try.prog 163 #[.string c] w fun e w' => ∃ A' c', e = .returned (.tuple #[.slice A' (plR c).length c', .bool (validD c)]) ∧
      Owned intE 1 3 w' w.heap.size A' (plR c).length c' (plR c) ∧ Below w.heap.size w w' := by
  have hb := PlainAid.get_bt c
  go_in
  go_wp2
  go_loopw [4, 9] (fun v i wr => ∃ (k : Nat) (A' : Option Addr) (m c' : Nat), k ≤ c.size ∧ i = .int .i64 k ∧ v = .slice A' m c' ∧ m = k ∧ Hid (∀ j, j < k → inB (dg c j) 1 8 = true) ∧ Owned intE 1 3 wr w.heap.size A' m c' ((digs c).take k) ∧ Below w.heap.size w wr) (fun _ i _ => c.size - (intOf i).toNat)
  case atStart => exact ⟨0, _, _, _, Nat.zero_le _, rfl, rfl, rfl, Lib.hid (fun j hj => absurd hj (by omega)), Owned.empty intE_len _ _ (by simp), by (repeat' (first | (with_reducible exact Below.refl _ _) | (with_reducible assumption) | (with_reducible refine below_drewN ?_ _) | (with_reducible refine Below.drew ?_) | (with_reducible refine below_alloc ?_ _) | (with_reducible refine Below.alloc ?_ ?_ _) | (with_reducible refine Below.setCell ?_ ?_ _) | (with_reducible refine below_go ?_ (by with_reducible assumption)) | (with_reducible refine below_then (by with_reducible assumption) ?_ ?_) | go_size))⟩
  case round =>
    obtain ⟨k, A', m, c', hk, rfl, rfl, rfl, HK, ho, hbl⟩ := hrel
    have HO := Lib.hid ho
    have hsz := hbl.size
    clear ho
    by_cases hlt : m < c.size
    · have HT := Lib.hid (digs_take hlt)
      have hn0 := PlainAid.bt_nonneg c m
      have hn1 := PlainAid.bt_le c m
      by_cases h1 : PlainAid.bt c m < 49
      · have e0 := Lib.hid (valid_bad hlt (dg_low h1))
        go_wp2
        go_ret2
        rw [plR_f e0.out, e0.out]
        exact ⟨none, 0, rfl, Owned.nil intE_len _ _ _, hbl⟩
      by_cases h2 : 56 < PlainAid.bt c m
      · have e0 := Lib.hid (valid_bad hlt (dg_high h2))
        go_wp2
        go_ret2
        rw [plR_f e0.out, e0.out]
        exact ⟨none, 0, rfl, Owned.nil intE_len _ _ _, hbl⟩
      have hw2 := wrap_dg c m
      have e1 := Lib.hid (dg_mid h1 h2)
      have hdg : PlainAid.bt c m - 48 = dg c m := rfl
      go_wp2_with (first | (at_builtin; go_must ((refine wpList_append_rec Try.elInt rfl (.tmp 22) (.tmp 28) rfl rfl (HO.out.alloc _) (dg c m) rfl (Box.at_ _ [.int .i64 (dg c m)] _ ?_) (intE_one _) ?_ (by decide) ?_ ?_; (focus (first | omega | (simp only [World.size_alloc]; done) | (simp only [World.size_alloc]; omega) | (simp; done) | (simp; omega))); (focus (first | omega | (simp only [World.size_alloc]; done) | (simp only [World.size_alloc]; omega) | (simp; done) | (simp; omega))); (focus (first | omega | (simp only [World.size_alloc]; done) | (simp only [World.size_alloc]; omega) | (simp; done) | (simp; omega))); intro A2 c2 w2 ho2 hg2 hb2))))
      go_roundw
      case rel =>
        exact ⟨m + 1, A2, m + 1, c2, by omega, by go_num, by go_num, rfl, Lib.hid (fun j hj => by rcases Nat.lt_succ_iff_lt_or_eq.1 hj with h | rfl; exact HK.out j h; exact e1.out), by rw [HT.out]; exact ho2, (hbl.alloc hsz _).trans hb2⟩
      case measure => simp [intOf]; omega
    · obtain rfl : m = c.size := by omega
      have e0 := Lib.hid (valid_good (fun j hj => HK.out j hj))
      have e1 := Lib.hid (show plR c = (digs c).take c.size by rw [plR_t e0.out, List.take_of_length_le (by rw [digs_len]; omega)])
      have hl := HO.out.len
      rw [← e1.out] at hl
      go_wp2
      go_ret2
      rw [e0.out, hl]
      refine ⟨_, _, rfl, ?_, hbl⟩
      rw [e1.out]; exact HO.out
theorem arePl_0 {n : Int} {l : List Int} (h : ¬ 0 < l.length) : arePl n l = false := by simp [arePl, h]
theorem arePl_n {n : Int} {l : List Int} (h : ((l.length : Int) == n) = true) : arePl n l = false := by simp [arePl, h]
theorem arePl_first {n x : Int} {l : List Int} (hx : l[0]? = some x) (h : (x % 2 == 0) = true) : arePl n l = false := by simp [arePl, List.getD, hx, h]
theorem arePl_par {n y : Int} {l : List Int} (hy : l[l.length - 1]? = some y) (h : (y % 2 == n % 2) = false) : arePl n l = false := by simp [arePl, List.getD, hy, h]
theorem arePl_big {n y : Int} {l : List Int} (hy : l[l.length - 1]? = some y) (h : n < y) : arePl n l = false := by
  have : decide (y ≤ n) = false := by simp; omega
  simp [arePl, List.getD, hy, this]
theorem arePl_adj {n x y : Int} {l : List Int} (h0 : 0 < l.length) (hn : ((l.length : Int) == n) = false) (hx : l[0]? = some x) (hx1 : (x % 2 == 0) = false) (hy : l[l.length - 1]? = some y) (hy1 : (y % 2 == n % 2) = true) (hy2 : ¬ n < y) :
    arePl n l = adj x (l.drop 1) := by
  have : decide (y ≤ n) = true := by simp; omega
  simp only [arePl, List.getD, hx, hy, Option.getD_some, h0, hn, hx1, hy1, this, decide_true, Bool.not_false, Bool.true_and]
set_option maxRecDepth 100000 in
theorem impl_arePlaces {A : Option Addr} {N c : Nat} {l : List Int} {n : Int} {w : World} (hN : l.length = N) (h : Ints w A l) (hz : N ≤ 16777216) (hn : 3 ≤ n ∧ n ≤ 8) (ha : ∀ x ∈ l, 1 ≤ x ∧ x ≤ 8) :
    Calls Try.prog 164 #[.int .i64 n, .slice A N c] w fun e w' => e = .returned (.bool (arePl n l)) ∧ Below w.heap.size w w' := by
  subst hN
  by_cases h0 : 0 < l.length
  · obtain ⟨b, o, x, rfl, hbb, hx, hc⟩ := h.at_int h0
    obtain ⟨b', o', y, hA, hbb', hy, hc'⟩ := h.at_int (k := l.length - 1) (by omega)
    injection hA with hA
    injection hA with e1 e2
    subst e1 e2
    have hx8 := ha x (List.mem_of_getElem? hx)
    have hy8 := ha y (List.mem_of_getElem? hy)
    simp only [Nat.add_zero] at hc
    have hz0 : ((l.length : Int) == 0) = false := beq_eq_false_iff_ne.2 (by omega)
    have hpred : ((l.length : Int) - 1) = ((l.length - 1 : Nat) : Int) := by omega
    rcases h1 : ((l.length : Int) == n)
    · rcases h2 : (x % 2 == 0)
      · rcases h3 : (y % 2 == n % 2)
        · have e0 := Lib.hid (arePl_par (n := n) hy h3)
          have h3' : (y % 2 != n % 2) = true := by rw [bne, h3]; rfl
          clear hx hy h
          go_in
          go_wp2
          go_ret
          exact ⟨ret_bool e0.out.symm, Below.refl _ _⟩
        · have h3' : (y % 2 != n % 2) = false := by rw [bne, h3]; rfl
          by_cases h4 : n < y
          · have e0 := Lib.hid (arePl_big (n := n) hy h4)
            clear hx hy h
            go_in
            go_wp2
            go_ret
            exact ⟨ret_bool e0.out.symm, Below.refl _ _⟩
          · have e0 := Lib.hid (arePl_adj h0 h1 hx h2 hy h3 h4)
            have HX := Lib.hid hx
            clear hx hy
            go_in
            go_wp2
            go_loopw [5] (fun i wr => ∃ (k : Nat) (q : Int), 0 < k ∧ k ≤ l.length ∧ i = .int .i64 k ∧ Hid (l[k - 1]? = some q ∧ arePl n l = adj q (l.drop k)) ∧ Below w.heap.size w wr) (fun i _ => l.length - (intOf i).toNat)
            case atStart => exact ⟨1, x, by omega, by omega, rfl, Lib.hid ⟨HX.out, e0.out⟩, Below.refl _ _⟩
            case round =>
              obtain ⟨k, q, hk0, hk, rfl, HK, hb⟩ := hrel
              by_cases hlt : k < l.length
              · obtain ⟨b3, o3, y3, hA3, hbb3, hy3, hc3⟩ := (h.below hb (Nat.le_refl _)).at_int hlt
                obtain ⟨b4, o4, y4, hA4, hbb4, hy4, hc4⟩ := (h.below hb (Nat.le_refl _)).at_int (k := k - 1) (by omega)
                injection hA3 with hA3
                injection hA3 with e3 e4
                injection hA4 with hA4
                injection hA4 with e5 e6
                subst e3 e4 e5 e6
                rw [HK.out.1] at hy4
                injection hy4 with hy4
                subst hy4
                have HD := Lib.hid (show l.drop k = y3 :: l.drop (k + 1) by rw [List.drop_eq_getElem_cons hlt]; congr 1; rw [List.getElem?_eq_getElem hlt] at hy3; injection hy3)
                have HY := Lib.hid hy3
                have hq8 := ha q (List.mem_of_getElem? HK.out.1)
                have hy38 := ha y3 (List.mem_of_getElem? hy3)
                clear hy3 hpred hz0 h1 h2 h3 h3' h4 hx8 hy8 hc hc' h
                have hwk : IntKind.i64.wrap ((k : Int) - 1) = ((k - 1 : Nat) : Int) := by
                  rw [PlainAid.i64_is]; unfold wrap64; omega
                have hlt1 : k - 1 < l.length := by omega
                by_cases h5 : q < y3
                · have hmod : (IntKind.i64.wrap (y3 - q)).tmod 2 = (y3 - q) % 2 := by
                    rw [PlainAid.i64_is, show wrap64 (y3 - q) = y3 - q by unfold wrap64; omega]
                    exact Int.tmod_eq_emod_of_nonneg (by omega)
                  rcases h6 : ((y3 - q) % 2 == 0)
                  · have e1 := Lib.hid (show arePl n l = adj y3 (l.drop (k + 1)) by rw [HK.out.2, HD.out, adj, h6, decide_eq_true h5]; rfl)
                    go_wp2
                    go_quiet (fail)
                    go_wp2
                    go_roundw
                    case rel => exact ⟨k + 1, y3, by omega, by omega, by go_num, Lib.hid ⟨by rw [Nat.add_sub_cancel]; exact HY.out, e1.out⟩, by (repeat' (first | (with_reducible exact Below.refl _ _) | (with_reducible assumption) | (with_reducible refine below_drewN ?_ _) | (with_reducible refine Below.drew ?_) | (with_reducible refine below_alloc ?_ _) | (with_reducible refine Below.alloc ?_ ?_ _) | (with_reducible refine Below.setCell ?_ ?_ _) | (with_reducible refine below_go ?_ (by with_reducible assumption)) | (with_reducible refine below_then (by with_reducible assumption) ?_ ?_) | go_size))⟩
                    case measure => simp [intOf]; omega
                  · have e1 := Lib.hid (show arePl n l = false by rw [HK.out.2, HD.out, adj, h6, decide_eq_true h5]; rfl)
                    go_wp2
                    go_quiet (fail)
                    go_wp2
                    go_ret
                    exact ⟨ret_bool e1.out.symm, by (repeat' (first | (with_reducible exact Below.refl _ _) | (with_reducible assumption) | (with_reducible refine below_drewN ?_ _) | (with_reducible refine Below.drew ?_) | (with_reducible refine below_alloc ?_ _) | (with_reducible refine Below.alloc ?_ ?_ _) | (with_reducible refine Below.setCell ?_ ?_ _) | (with_reducible refine below_go ?_ (by with_reducible assumption)) | (with_reducible refine below_then (by with_reducible assumption) ?_ ?_) | go_size))⟩
                · have e1 := Lib.hid (show arePl n l = false by rw [HK.out.2, HD.out, adj, decide_eq_false h5]; rfl)
                  go_wp2
                  go_quiet (fail)
                  go_wp2
                  go_ret
                  exact ⟨ret_bool e1.out.symm, by (repeat' (first | (with_reducible exact Below.refl _ _) | (with_reducible assumption) | (with_reducible refine below_drewN ?_ _) | (with_reducible refine Below.drew ?_) | (with_reducible refine below_alloc ?_ _) | (with_reducible refine Below.alloc ?_ ?_ _) | (with_reducible refine Below.setCell ?_ ?_ _) | (with_reducible refine below_go ?_ (by with_reducible assumption)) | (with_reducible refine below_then (by with_reducible assumption) ?_ ?_) | go_size))⟩
              · obtain rfl : k = l.length := by omega
                have e1 := Lib.hid (show arePl n l = true by rw [HK.out.2, List.drop_eq_nil_of_le (Nat.le_refl _)]; rfl)
                go_wp2
                go_ret
                exact ⟨ret_bool e1.out.symm, hb⟩
      · have e0 := Lib.hid (arePl_first (n := n) hx h2)
        clear hx hy h
        go_in
        go_wp2
        go_ret
        exact ⟨ret_bool e0.out.symm, Below.refl _ _⟩
    · have e0 := Lib.hid (arePl_n h1)
      clear hx hy h
      go_in
      go_wp2
      go_ret
      exact ⟨ret_bool e0.out.symm, Below.refl _ _⟩
  · have e0 := Lib.hid (arePl_0 (n := n) h0)
    have h1 : l.length = 0 := by omega
    rw [h1]
    clear h h0 h1
    go_in
    go_wp2
    go_ret
    exact ⟨ret_bool e0.out.symm, Below.refl _ _⟩
set_option maxRecDepth 100000 in
theorem impl_GoodChange {c : ByteArray} {n : Int} {w : World} (hz : c.size ≤ 16777216) :
    Calls Try.prog 80 #[.int .i64 n, .string c] w fun e w' => e = .returned (.bool (goodChange n c)) ∧ Below w.heap.size w w' := by
  rcases h1 : inB n 3 8
  · have e0 := Lib.hid (goodChange_stage (c := c) h1)
    go_in
    go_wp2_with (first | (go_at_call 110; refine (impl_isStage _ _).mono ?_; rintro e w' ⟨rfl, rfl⟩))
    go_ret
    exact ⟨ret_bool e0.out.symm, Below.refl _ _⟩
  have hn3 := inB_t h1
  rcases h6 : isDash c
  · have e0 := Lib.hid (good_impl hn3 h6)
    have h7 : (c.toList == [45]) = false := h6
    rcases hv : validD c
    · have e1 := Lib.hid (show goodChange n c = false by rw [e0.out, hv]; rfl)
      go_in
      go_wp2_with (first | (go_at_call 110; refine (impl_isStage _ _).mono ?_; rintro e w' ⟨rfl, rfl⟩) | (go_at_call 163; refine (impl_places hz).mono ?_; rintro e w1 ⟨A1, c1, rfl, ho1, hb1⟩; have hz1 : (plR c).length ≤ 16777216 := by (rw [plR_f hv]; decide)))
      go_ret
      exact ⟨ret_bool e1.out.symm, hb1⟩
    · have hva := valid_at hv
      have hpl := plR_t hv
      have hz1 : (plR c).length ≤ 16777216 := by rw [hpl, digs_len]; exact hz
      rw [← hpl] at hva
      have e1 := Lib.hid (show goodChange n c = arePl n (plR c) by rw [e0.out, hv, hpl]; rfl)
      clear hpl
      go_in
      go_wp2_with (first | (go_at_call 110; refine (impl_isStage _ _).mono ?_; rintro e w' ⟨rfl, rfl⟩) | (go_at_call 163; refine (impl_places hz).mono ?_; rintro e w1 ⟨A1, c1, rfl, ho1, hb1⟩) | (go_at_call 164; refine (impl_arePlaces rfl ho1.recs hz1 hn3 hva).mono ?_; rintro e w2 ⟨rfl, hb2⟩))
      go_ret
      exact ⟨ret_bool e1.out.symm, below_go hb1 hb2⟩
  · have e0 := Lib.hid (goodChange_dash h1 (dash_size hn3.1 h6) h6)
    have h7 : (c.toList == [45]) = true := h6
    go_in
    go_wp2_with (first | (go_at_call 110; refine (impl_isStage _ _).mono ?_; rintro e w' ⟨rfl, rfl⟩))
    go_ret
    exact ⟨ret_bool e0.out.symm, Below.refl _ _⟩
end Go.Proofs.Ytpccbmndgdiloaa
/- The swaps of a change, the program's side; ChangeSign on both sides. -/
namespace Go.Proofs.Ytpccbmndgdiloaa
set_option linter.unusedVariables false
set_option linter.unusedSimpArgs false
open Go.ChangeShapes Go.WideShapes Go.ChangeAt Go.RowKit Go.Deep
theorem impl_placesOf {c : ByteArray} {w : World} (hz : c.size ≤ 16777216) (hg : isDash c = true ∨ validD c = true) :
    Calls Try.prog 213 #[.string c] w fun e w' => ∃ A' c', e = .returned (.slice A' (plsOf c).length c') ∧
      Owned intE 1 3 w' w.heap.size A' (plsOf c).length c' (plsOf c) ∧ Below w.heap.size w w' := by
  rcases h6 : isDash c
  · have h7 : (c.toList == [45]) = false := h6
    have hv : validD c = true := by rcases hg with h | h; rw [h6] at h; cases h; exact h
    have e0 := Lib.hid (plsOf_digs h6)
    have e1 := Lib.hid (plR_t hv)
    go_in
    go_wp2_with (first | (go_at_call 163; refine (impl_places hz).mono ?_; rintro e w1 ⟨A1, c1, rfl, ho1, hb1⟩))
    go_ret
    rw [e0.out, ← e1.out]
    exact ⟨_, _, rfl, ho1, hb1⟩
  · have h7 : (c.toList == [45]) = true := h6
    have e0 := Lib.hid (plsOf_dash h6)
    go_in
    go_wp2
    go_ret
    rw [e0.out]
    exact ⟨_, _, rfl, Owned.empty intE_len _ _ (by simp), by (repeat' (first | (with_reducible exact Below.refl _ _) | (with_reducible assumption) | (with_reducible refine below_drewN ?_ _) | (with_reducible refine Below.drew ?_) | (with_reducible refine below_alloc ?_ _) | (with_reducible refine Below.alloc ?_ ?_ _) | (with_reducible refine Below.setCell ?_ ?_ _) | (with_reducible refine below_go ?_ (by with_reducible assumption)) | (with_reducible refine below_then (by with_reducible assumption) ?_ ?_) | go_size))⟩
def hasI (l : List Int) (p : Int) : Bool := l.contains p
theorem slices_IndexInt {A : Option Addr} {N c : Nat} {l : List Int} {p : Int} {w : World} (hN : l.length = N) (h : Ints w A l) (hz : N ≤ 16777216) :
    Calls Try.prog 234 #[.slice A N c, .int .i64 p] w fun e w' => ∃ r : Int, e = .returned (.int .i64 r) ∧ decide (0 ≤ r) = hasI l p ∧ w = w' := by
  subst hN
  go_in
  go_wp2
  go_loopw [8] (fun i wr => ∃ k : Nat, k ≤ l.length ∧ i = .int .i64 k ∧ Hid (hasI l p = (l.drop k).contains p) ∧ w = wr) (fun i _ => l.length - (intOf i).toNat)
  case atStart => exact ⟨0, Nat.zero_le _, rfl, Lib.hid rfl, rfl⟩
  case round =>
    obtain ⟨k, hk, rfl, HK, rfl⟩ := hrel
    by_cases hlt : k < l.length
    · obtain ⟨b3, o3, y3, rfl, hbb3, hy3, hc3⟩ := h.at_int hlt
      have HD := Lib.hid (show l.drop k = y3 :: l.drop (k + 1) by rw [List.drop_eq_getElem_cons hlt]; congr 1; rw [List.getElem?_eq_getElem hlt] at hy3; injection hy3)
      clear hy3
      rcases he : (p == y3)
      · have e1 := Lib.hid (show hasI l p = (l.drop (k + 1)).contains p by rw [HK.out, HD.out, List.contains_cons, he]; rfl)
        go_wp2
        go_roundw
        case rel => exact ⟨k + 1, by omega, by go_num, e1, trivial⟩
        case measure => simp [intOf]; omega
      · have e1 := Lib.hid (show hasI l p = true by rw [HK.out, HD.out, List.contains_cons, he]; rfl)
        go_wp2
        go_ret
        exact ⟨(k : Int), rfl, by rw [e1.out]; simp, rfl⟩
    · have e1 := Lib.hid (show hasI l p = false by rw [HK.out, List.drop_eq_nil_of_le (by omega)]; rfl)
      go_wp2
      go_ret
      exact ⟨-1, rfl, by rw [e1.out]; rfl, rfl⟩
theorem slices_ContainsInt {A : Option Addr} {N c : Nat} {l : List Int} {p : Int} {w : World} (hN : l.length = N) (h : Ints w A l) (hz : N ≤ 16777216) :
    Calls Try.prog 214 #[.slice A N c, .int .i64 p] w fun e w' => e = .returned (.bool (hasI l p)) ∧ w = w' := by
  go_in
  go_wp2_with (first | (go_at_call 234; refine (slices_IndexInt hN h hz).mono ?_; rintro e w' ⟨r, rfl, hr, rfl⟩))
  go_ret
  exact ⟨ret_bool rfl, rfl⟩
set_option maxRecDepth 100000 in
theorem impl_swapsOf {c : ByteArray} {n : Nat} {w : World} (hz : c.size ≤ 16777216) (hn : n ≤ 8) (hg : isDash c = true ∨ validD c = true) :
    Calls Try.prog 165 #[.int .i64 n, .string c] w fun e w' => ∃ A' c', e = .returned (.slice A' (swaps n c).length c') ∧
      Owned intE 1 3 w' w.heap.size A' (swaps n c).length c' (swaps n c) ∧ Below w.heap.size w w' := by
  have hpz : (plsOf c).length ≤ 16777216 := by
    rcases h6 : isDash c
    · rw [plsOf_digs h6, digs_len]; exact hz
    · rw [plsOf_dash h6]; decide
  go_in
  go_wp2_with (first | (go_at_call 213; refine (impl_placesOf hz hg).mono ?_; rintro e w1 ⟨A1, c1, rfl, ho1, hb1⟩; have hst := ho1.recs; have hsz1 := hb1.size; clear ho1))
  go_loopw [6, 7] (fun v i wr => ∃ (k : Nat) (A' : Option Addr) (m c' : Nat) (l : List Int), k ≤ n + 1 ∧ i = .int .i64 (k + 1 : Nat) ∧ v = .slice A' m c' ∧ Hid (swaps n c = l ++ sws (stays c) n (k + 1)) ∧ m ≤ k ∧ Owned intE 1 3 wr w1.heap.size A' m c' l ∧ Below w1.heap.size w1 wr) (fun _ i _ => n + 2 - (intOf i).toNat)
  case atStart => exact ⟨0, _, _, _, [], by omega, rfl, rfl, Lib.hid rfl, by omega, Owned.empty intE_len _ _ (by simp), by (repeat' (first | (with_reducible exact Below.refl _ _) | (with_reducible assumption) | (with_reducible refine below_drewN ?_ _) | (with_reducible refine Below.drew ?_) | (with_reducible refine below_alloc ?_ _) | (with_reducible refine Below.alloc ?_ ?_ _) | (with_reducible refine Below.setCell ?_ ?_ _) | (with_reducible refine below_go ?_ (by with_reducible assumption)) | (with_reducible refine below_then (by with_reducible assumption) ?_ ?_) | go_size))⟩
  case round =>
    obtain ⟨k, A', m, c', l, hk, rfl, rfl, HK, hmk, ho, hb⟩ := hrel
    have HO := Lib.hid ho
    have hsz := hb.size
    have hS := Lib.hid (hst.below hb (Nat.le_refl _))
    clear ho hst
    by_cases hlt : k + 1 < n
    · have hpc : Hid (hasI (plsOf c) ((k : Int) + 1) = stays c ((k : Int) + 1)) := Lib.hid (pls_has (c := c) (p := (k : Int) + 1) (by omega))
      rcases hs : stays c ((k : Int) + 1)
      · have e1 := Lib.hid (sws_swap hlt hs)
        have hs2 : hasI (plsOf c) ((k : Int) + 1) = false := hpc.out.trans hs
        go_wp2_with (first | (go_at_call 214; refine (slices_ContainsInt rfl hS.out hpz).mono ?_; rintro e w' ⟨rfl, rfl⟩) | (at_builtin; go_must ((refine wpList_append_rec Try.elInt rfl (.tmp 20) (.tmp 22) rfl rfl (HO.out.alloc _) ((k : Int) + 1) rfl (Box.at_ _ [.int .i64 ((k : Int) + 1)] _ ?_) (intE_one _) ?_ (by decide) ?_ ?_; (focus (first | omega | (simp only [World.size_alloc]; done) | (simp only [World.size_alloc]; omega) | (simp; done) | (simp; omega))); (focus (first | omega | (simp only [World.size_alloc]; done) | (simp only [World.size_alloc]; omega) | (simp; done) | (simp; omega))); (focus (first | omega | (simp only [World.size_alloc]; done) | (simp only [World.size_alloc]; omega) | (simp; done) | (simp; omega))); intro A2 c2 w2 ho2 hg2 hb2))))
        go_roundw
        case rel => exact ⟨k + 2, A2, m + 1, c2, l ++ [((k + 1 : Nat) : Int)], by omega, by go_num, by go_num, Lib.hid (by rw [HK.out, e1.out, List.append_assoc]; rfl), by omega, ho2, (hb.alloc hsz _).trans hb2⟩
        case measure => simp [intOf]; omega
      · have e1 := Lib.hid (sws_stay hlt hs)
        have hs2 : hasI (plsOf c) ((k : Int) + 1) = true := hpc.out.trans hs
        go_wp2_with (first | (go_at_call 214; refine (slices_ContainsInt rfl hS.out hpz).mono ?_; rintro e w' ⟨rfl, rfl⟩))
        go_roundw
        case rel => exact ⟨k + 1, A', m, c', l, by omega, by go_num, rfl, Lib.hid (by rw [HK.out, e1.out]), by omega, HO.out, by (repeat' (first | (with_reducible exact Below.refl _ _) | (with_reducible assumption) | (with_reducible refine below_drewN ?_ _) | (with_reducible refine Below.drew ?_) | (with_reducible refine below_alloc ?_ _) | (with_reducible refine Below.alloc ?_ ?_ _) | (with_reducible refine Below.setCell ?_ ?_ _) | (with_reducible refine below_go ?_ (by with_reducible assumption)) | (with_reducible refine below_then (by with_reducible assumption) ?_ ?_) | go_size))⟩
        case measure => simp [intOf]; omega
    · have e1 := Lib.hid (show swaps n c = l by rw [HK.out, sws_end hlt, List.append_nil])
      have hl := HO.out.len
      go_wp2
      go_ret
      rw [e1.out, hl]
      exact ⟨_, _, rfl, HO.out.base_le hsz1, below_go hb1 hb⟩
theorem impl_evenChange {c : ByteArray} {n : Nat} {w : World} (hz : c.size ≤ 16777216) (hn : n ≤ 8) (hg : isDash c = true ∨ validD c = true) :
    Calls Try.prog 81 #[.int .i64 n, .string c] w fun e w' => e = .returned (.bool (evenSwaps n c)) ∧ Below w.heap.size w w' := by
  have hl : (swaps n c).length ≤ 8 := by
    have := sws_len (stays c) n 1
    rw [swaps]; omega
  go_in
  go_wp2_with (first | (go_at_call 165; refine (impl_swapsOf hz hn hg).mono ?_; rintro e w1 ⟨A1, c1, rfl, ho1, hb1⟩))
  go_ret
  refine ⟨ret_bool ?_, hb1⟩
  simp only [evenSwaps]
  rw [Bool.eq_iff_iff]
  simp
  omega
def signR (n : Int) (c : ByteArray) : Bool := goodChange n c && evenSwaps n.toNat c
theorem impl_ChangeSign {c : ByteArray} {n : Int} {w : World} (hz : c.size ≤ 16777216) :
    Calls Try.prog 18 #[.int .i64 n, .string c] w fun e w' => e = .returned (.tuple #[.bool (signR n c), .bool (goodChange n c)]) ∧ Below w.heap.size w w' := by
  rcases h1 : goodChange n c
  · have e0 := Lib.hid (show signR n c = false by rw [signR, h1]; rfl)
    go_in
    go_wp2_with (first | (go_at_call 80; refine (impl_GoodChange hz).mono ?_; rintro e w1 ⟨rfl, hb1⟩))
    go_ret2
    exact ⟨by rw [e0.out]; rfl, hb1⟩
  · have hn3 := goodChange_n h1
    have hg := good_valid h1
    obtain ⟨m, rfl⟩ := Int.eq_ofNat_of_zero_le (show 0 ≤ n by omega)
    have e0 := Lib.hid (show signR m c = evenSwaps m c by rw [signR, h1]; rfl)
    have hm : m ≤ 8 := by omega
    go_in
    go_wp2_with (first | (go_at_call 80; refine (impl_GoodChange hz).mono ?_; rintro e w1 ⟨rfl, hb1⟩) | (go_at_call 81; refine (impl_evenChange hz hm hg).mono ?_; rintro e w2 ⟨rfl, hb2⟩))
    go_ret2
    exact ⟨by rw [e0.out]; rfl, below_go hb1 hb2⟩
theorem spec_ChangeSign {c : ByteArray} {n : Int} {w : World} (hz : c.size ≤ 16777216) (hn : I64 n) :
    Calls Try.prog 19 #[.int .i64 n, .string c] w fun e w' => e = .returned (.tuple #[.bool (signR n c), .bool (goodChange n c)]) ∧ Below w.heap.size w w' := by
  rcases h1 : goodChange n c
  · have e0 := Lib.hid (show signR n c = false by rw [signR, h1]; rfl)
    go_in
    go_wp2_with (first | (go_at_call 82; refine (spec_l2Change hz hn).mono ?_; rintro e w1 ⟨rfl, rfl⟩))
    go_ret2
    exact ⟨by rw [e0.out]; rfl, Below.refl _ _⟩
  · have hn3 := goodChange_n h1
    obtain ⟨m, rfl⟩ := Int.eq_ofNat_of_zero_le (show 0 ≤ n by omega)
    have e0 := Lib.hid (show signR m c = evenSwaps m c by rw [signR, h1]; rfl)
    have hm : m ≤ 8 := by omega
    have hl : (swaps m c).length ≤ 8 := by
      have := sws_len (stays c) m 1
      rw [swaps]; omega
    go_in
    go_wp2_with (first | (go_at_call 82; refine (spec_l2Change hz hn).mono ?_; rintro e w1 ⟨rfl, rfl⟩) | (go_at_call 83; refine (spec_l2Swaps hz hm).mono ?_; rintro e w2 ⟨A2, c2, rfl, ho2, hb2⟩))
    go_ret2
    refine ⟨?_, hb2⟩
    rw [e0.out, evenSwaps, show (((swaps m c).length : Int) % 2 == 0) = decide ((swaps m c).length % 2 = 0) by rw [Bool.eq_iff_iff]; simp; omega]
    rfl
end Go.Proofs.Ytpccbmndgdiloaa
/- The walks through the row of a change, the reference's side. -/
namespace Go.Proofs.Ytpccbmndgdiloaa
set_option linter.unusedVariables false
set_option linter.unusedSimpArgs false
open Go.ChangeShapes Go.WideShapes Go.ChangeAt Go.RowKit Go.Deep
theorem spec_l1Rounds {n : Nat} {w : World} (hn : n ≤ 8) :
    Calls Try.prog 108 #[.int .i64 n] w fun e w' => e = .returned (.string (roundsS n)) ∧ w = w' := by
  go_in
  go_wp2
  go_ret
  exact ⟨rfl, rfl⟩
theorem impl_rounds {n : Nat} {w : World} (hn : n ≤ 8) :
    Calls Try.prog 102 #[.int .i64 n] w fun e w' => e = .returned (.string (roundsS n)) ∧ w = w' := by
  go_in
  go_wp2
  go_ret
  exact ⟨rfl, rfl⟩
set_option maxRecDepth 100000 in
theorem spec_l2Row {c : ByteArray} {n : Nat} {w : World} (hz : c.size ≤ 16777216) (hn : n ≤ 8) :
    Calls Try.prog 219 #[.int .i64 n, .string c] w fun e w' => e = .returned (.string (chRow n c)) ∧ Below w.heap.size w w' := by
  have hcv := run_bytes (P := Try.prog) (src := 9) (dst := 22) (e := 5) (roundsS n) Try.underlying9 Try.underlying22 Try.underlying5
  have hrs := rounds_size n (by omega)
  rw [hrs] at hcv
  have hE : Hid (chRow n c = strOfNums (rowV n (swaps n c))) := Lib.hid rfl
  go_in
  go_wp2_with (first | (go_at_call 108; refine (spec_l1Rounds hn).mono ?_; rintro e w' ⟨rfl, rfl⟩))
  have hr0 := bytesW_row w 5 (roundsS n)
  have hb0 := bytesW_below w 5 (roundsS n)
  rw [rowV_nil n (by omega)] at hr0
  clear hcv
  generalize grownCap w n 0 5 = cc
  go_loopw [6] (fun i wr => ∃ (k : Nat) (l : List Int), k ≤ n + 1 ∧ i = .int .i64 (k + 1 : Nat) ∧ Hid (swaps n c = l ++ sws (stays c) n (k + 1)) ∧ Hid (∀ x ∈ l, x + 2 ≤ ((k + 1 : Nat) : Int)) ∧ Hid (BRow wr w.heap.size (rowV n l)) ∧ Below w.heap.size w wr) (fun i _ => n + 2 - (intOf i).toNat)
  case atStart => exact ⟨0, [], by omega, rfl, Lib.hid rfl, Lib.hid (fun x hx => by cases hx), Lib.hid hr0, hb0⟩
  case round =>
    obtain ⟨k, l, hk, rfl, HK, HL, HR, hb⟩ := hrel
    by_cases hlt : k + 1 < n
    · have hI : I64 ((k : Int) + 1) := by unfold I64; omega
      rcases hs : stays c ((k : Int) + 1)
      · have e1 := Lib.hid (sws_swap hlt hs)
        have hrow := Lib.hid (rowV_step (p := k + 1) (by omega) hlt HL.out)
        have hlen := rowV_len n l
        have c1 := HR.out.2.1 k _ (List.getElem?_eq_getElem (by omega))
        have c2 := HR.out.2.1 (k + 1) _ (List.getElem?_eq_getElem (by omega))
        have f1 := HR.out.2.2 k (by omega)
        have f2 := HR.out.2.2 (k + 1) (by omega)
        have hR2 := Lib.hid ((HR.out.set (k := k) (by omega) (49 + ((k + 1 : Nat) : Int))).set (k := k + 1) (by rw [List.length_set]; omega) (48 + ((k + 1 : Nat) : Int)))
        go_wp2_with (first | (go_at_call 166; refine (spec_l2Stays hz hI).mono ?_; rintro e w' ⟨rfl, rfl⟩))
        go_roundw
        case rel => exact ⟨k + 2, l ++ [((k + 1 : Nat) : Int)], by omega, by go_num, Lib.hid (by rw [HK.out, e1.out, List.append_assoc]; rfl), Lib.hid (fun x hx => by
            rcases List.mem_append.1 hx with hx | hx
            · have := HL.out x hx; omega
            · rw [List.mem_singleton.1 hx]; omega), Lib.hid (by rw [hrow.out]; exact hR2.out), by (repeat' (first | (with_reducible exact Below.refl _ _) | (with_reducible assumption) | (with_reducible refine below_drewN ?_ _) | (with_reducible refine Below.drew ?_) | (with_reducible refine below_alloc ?_ _) | (with_reducible refine Below.alloc ?_ ?_ _) | (with_reducible refine Below.setCell ?_ ?_ _) | (with_reducible refine below_go ?_ (by with_reducible assumption)) | (with_reducible refine below_then (by with_reducible assumption) ?_ ?_) | go_size))⟩
        case measure => simp [intOf]; omega
      · have e1 := Lib.hid (sws_stay hlt hs)
        go_wp2_with (first | (go_at_call 166; refine (spec_l2Stays hz hI).mono ?_; rintro e w' ⟨rfl, rfl⟩))
        go_roundw
        case rel => exact ⟨k + 1, l, by omega, by go_num, Lib.hid (by rw [HK.out, e1.out]), Lib.hid (fun x hx => by have := HL.out x hx; omega), HR, hb⟩
        case measure => simp [intOf]; omega
    · have e1 := Lib.hid (show swaps n c = l by rw [HK.out, sws_end hlt, List.append_nil])
      have ht := HR.out.text (P := Try.prog) (src := 22) (e := 5) (dst := 9) n cc (rowV_len n l) Try.underlying22 Try.underlying5 Try.underlying9
      go_wp2
      go_ret
      rw [hE.out, e1.out]
      exact ⟨rfl, hb⟩
end Go.Proofs.Ytpccbmndgdiloaa
/- The walk through the row of a change, the program's side. -/
namespace Go.Proofs.Ytpccbmndgdiloaa
set_option linter.unusedVariables false
set_option linter.unusedSimpArgs false
open Go.ChangeShapes Go.WideShapes Go.ChangeAt Go.RowKit Go.Deep
set_option maxRecDepth 100000 in
theorem impl_changeRow {c : ByteArray} {n : Nat} {w : World} (hz : c.size ≤ 16777216) (hn : n ≤ 8) (hg : isDash c = true ∨ validD c = true) :
    Calls Try.prog 84 #[.int .i64 n, .string c] w fun e w' => e = .returned (.string (chRow n c)) ∧ Below w.heap.size w w' := by
  have hcv := run_bytes (P := Try.prog) (src := 9) (dst := 22) (e := 5) (roundsS n) Try.underlying9 Try.underlying22 Try.underlying5
  have hrs := rounds_size n (by omega)
  rw [hrs] at hcv
  have hE : Hid (chRow n c = strOfNums (rowV n (swaps n c))) := Lib.hid rfl
  have hlen8 : (swaps n c).length ≤ 8 := by
    have := sws_len (stays c) n 1
    rw [swaps]; omega
  have hin : Hid (∀ x ∈ swaps n c, ((1 : Nat) : Int) ≤ x ∧ x < n) := Lib.hid (sws_in (stays c) n 1)
  have hfar : Hid ((swaps n c).Pairwise fun x y => x + 2 ≤ y) := Lib.hid (sws_far (stays c) n 1)
  have hr0 := Lib.hid (bytesW_row w 5 (roundsS n))
  have hb0 := bytesW_below w 5 (roundsS n)
  rw [rowV_nil n (by omega)] at hr0
  have hs0 := bytesW_size w 5 (roundsS n)
  go_in
  go_wp2_with (first | (go_at_call 102; refine (impl_rounds hn).mono ?_; rintro e w' ⟨rfl, rfl⟩) | (go_at_call 165; refine (impl_swapsOf hz hn hg).mono ?_; rintro e w1 ⟨A1, c1, rfl, ho1, hb1⟩))
  clear hcv
  generalize grownCap w n 0 5 = cc
  have hr1 := Lib.hid (hr0.out.up hb1)
  have hb01 := below_go hb0 hb1
  have hs1 := hb1.size
  rw [hs0] at ho1
  have HO1 := Lib.hid ho1
  clear ho1 hr0
  generalize hsw : swaps n c = sw at *
  clear hsw
  go_loopw [15] (fun i wr => ∃ k : Nat, k ≤ sw.length ∧ i = .int .i64 k ∧ Hid (BRow wr w.heap.size (rowV n (sw.take k))) ∧ Hid (Owned intE 1 3 wr (w.heap.size + 1) A1 sw.length c1 sw) ∧ Below w.heap.size w wr) (fun i _ => sw.length - (intOf i).toNat)
  case atStart => exact ⟨0, Nat.zero_le _, rfl, hr1, HO1, hb01⟩
  case round =>
    obtain ⟨k, hk, rfl, HR, HO, hb⟩ := hrel
    by_cases hlt : k < sw.length
    · obtain ⟨b3, o3, y, rfl, hbb, hy, hcy⟩ := HO.out.recs.at_int hlt
      have hyin := hin.out y (List.mem_of_getElem? hy)
      obtain ⟨q, rfl⟩ : ∃ q : Nat, y = (q : Int) + 1 := ⟨(y - 1).toNat, by omega⟩
      have hq : q + 1 < n := by omega
      have hfr : ∀ x ∈ sw.take k, x + 2 ≤ ((q + 1 : Nat) : Int) := take_far hfar.out hy
      have hpl := rowV_plain hq hfr
      have d1 := HR.out.2.1 q _ hpl.1
      have d2 := HR.out.2.1 (q + 1) _ hpl.2
      have hlen := rowV_len n (sw.take k)
      have f1 := HR.out.2.2 q (by omega)
      have f2 := HR.out.2.2 (q + 1) (by omega)
      have htk := Lib.hid (show sw.take (k + 1) = sw.take k ++ [((q + 1 : Nat) : Int)] from take_succ_some hy)
      have hrow := Lib.hid (rowV_step (p := q + 1) (by omega) hq hfr)
      have hR2 := Lib.hid ((HR.out.set (k := q) (by omega) (49 + ((q : Int) + 1))).set (k := q + 1) (by rw [List.length_set]; omega) (49 + (q : Int)))
      have hO2 : Hid (Owned intE 1 3 ((wr.setCell ⟨w.heap.size, q, none⟩ (.int .u8 (49 + ((q : Int) + 1)))).setCell ⟨w.heap.size, q + 1, none⟩ (.int .u8 (49 + (q : Int)))) (w.heap.size + 1) (some ⟨b3, o3, none⟩) sw.length c1 sw) :=
        Lib.hid ((HO.out.past (only_set _ _) (Nat.lt_succ_self _)).past (only_set _ _) (Nat.lt_succ_self _))
      clear hpl hfr hy hyin
      go_wp2
      go_region
      all_goals go_wp2
      all_goals go_roundw
      case rel => exact ⟨k + 1, by omega, by go_num, Lib.hid (by rw [htk.out, hrow.out, show (48 + ((q + 1 : Nat) : Int)) = 49 + (q : Int) by omega]; exact hR2.out), hO2, by (repeat' (first | (with_reducible exact Below.refl _ _) | (with_reducible assumption) | (with_reducible refine below_drewN ?_ _) | (with_reducible refine Below.drew ?_) | (with_reducible refine below_alloc ?_ _) | (with_reducible refine Below.alloc ?_ ?_ _) | (with_reducible refine Below.setCell ?_ ?_ _) | (with_reducible refine below_go ?_ (by with_reducible assumption)) | (with_reducible refine below_then (by with_reducible assumption) ?_ ?_) | go_size))⟩
      case measure => simp [intOf]; omega
    · obtain rfl : k = sw.length := by omega
      have e1 := Lib.hid (show sw.take sw.length = sw from List.take_of_length_le (Nat.le_refl _))
      have ht := HR.out.text (P := Try.prog) (src := 22) (e := 5) (dst := 9) n cc (rowV_len n _) Try.underlying22 Try.underlying5 Try.underlying9
      rw [e1.out, ← hE.out] at ht
      go_wp2
      go_ret
      exact ⟨rfl, hb⟩
end Go.Proofs.Ytpccbmndgdiloaa
/- The walks through a row taken through another, both sides. -/
namespace Go.Proofs.Ytpccbmndgdiloaa
set_option linter.unusedVariables false
set_option linter.unusedSimpArgs false
open Go.ChangeShapes Go.WideShapes Go.ChangeAt Go.RowKit Go.Deep
set_option maxRecDepth 100000 in
theorem impl_times {a b : ByteArray} {w : World} (ha : a.size ≤ 16777216) (hz : b.size ≤ 16777216) (hf : fits a b) :
    Calls Try.prog 208 #[.string a, .string b] w fun e w' => e = .returned (.string (timesS a b)) ∧ Below w.heap.size w w' := by
  have hba := PlainAid.get_bt a
  have hbb := PlainAid.get_bt b
  have hmk := run_make_rec (e := byteE) Try.elU8 0 rfl b.size (by omega) (by decide)
  have hE : Hid (timesS a b = strOfNums (timesL a b)) := Lib.hid rfl
  have HF : Hid (fits a b) := hf
  have hr0 : Hid (BRow (w.alloc (.cells (madeCells (byteE 0).toArray (b.size * 1)) 5)) w.heap.size (List.replicate b.size 0)) := Lib.hid (BRow.of_owned (Owned.made (e := byteE) (s := 1) byteE_len w 5 0 b.size (by omega) (Nat.le_refl _)))
  have hb0 : Below w.heap.size w (w.alloc (.cells (madeCells (byteE 0).toArray (b.size * 1)) 5)) := by (repeat' (first | (with_reducible exact Below.refl _ _) | (with_reducible assumption) | (with_reducible refine below_drewN ?_ _) | (with_reducible refine Below.drew ?_) | (with_reducible refine below_alloc ?_ _) | (with_reducible refine Below.alloc ?_ ?_ _) | (with_reducible refine Below.setCell ?_ ?_ _) | (with_reducible refine below_go ?_ (by with_reducible assumption)) | (with_reducible refine below_then (by with_reducible assumption) ?_ ?_) | go_size))
  clear hf
  rw [Nat.mul_one] at hr0 hb0 hmk
  go_in
  go_wp2
  clear hmk
  go_loopw [12] (fun i wr => ∃ (k : Nat) (m : List Int), k ≤ b.size ∧ i = .int .i64 k ∧ Hid (∀ j, j < k → m[j]? = (timesL a b)[j]?) ∧ m.length = b.size ∧ Hid (BRow wr w.heap.size m) ∧ Below w.heap.size w wr) (fun i _ => b.size - (intOf i).toNat)
  case atStart => exact ⟨0, _, Nat.zero_le _, rfl, Lib.hid (fun j hj => absurd hj (by omega)), by simp, hr0, hb0⟩
  case round =>
    obtain ⟨k, m, hk, rfl, HM, hml, HR, hb⟩ := hrel
    by_cases hlt : k < b.size
    · have hr := HF.out k hlt
      obtain ⟨q, hq⟩ : ∃ q : Nat, PlainAid.bt b k = (q : Int) + 49 := ⟨(PlainAid.bt b k - 49).toNat, by omega⟩
      have hqa : q < a.size := by omega
      have hb255 := PlainAid.bt_le b k
      have hq6 : q % 256 = q := by omega
      have hq1 : PlainAid.bt b k - 49 = (q : Int) := by omega
      have hq2 : (PlainAid.bt b k - 49).toNat = q := by omega
      have E := Lib.hid (show (timesL a b)[k]? = some (PlainAid.bt a q) by rw [timesL_at hlt, hq2])
      have d1 := HR.out.2.1 k _ (List.getElem?_eq_getElem (by omega))
      have f1 := HR.out.2.2 k (by omega)
      have hR2 := Lib.hid (HR.out.set (k := k) (by omega) (PlainAid.bt a q))
      go_wp2
      go_roundw
      case rel => exact ⟨k + 1, m.set k (PlainAid.bt a q), by omega, by go_num, Lib.hid (upto_set HM.out E.out (by omega)), by rw [List.length_set]; exact hml, hR2, by (repeat' (first | (with_reducible exact Below.refl _ _) | (with_reducible assumption) | (with_reducible refine below_drewN ?_ _) | (with_reducible refine Below.drew ?_) | (with_reducible refine below_alloc ?_ _) | (with_reducible refine Below.alloc ?_ ?_ _) | (with_reducible refine Below.setCell ?_ ?_ _) | (with_reducible refine below_go ?_ (by with_reducible assumption)) | (with_reducible refine below_then (by with_reducible assumption) ?_ ?_) | go_size))⟩
      case measure => simp [intOf]; omega
    · obtain rfl : k = b.size := by omega
      have e1 : m = timesL a b := eq_of_upto (fun j hj => HM.out j hj) hml (timesL_len a b)
      have ht := HR.out.text (P := Try.prog) (src := 22) (e := 5) (dst := 9) b.size b.size hml Try.underlying22 Try.underlying5 Try.underlying9
      rw [e1, ← hE.out] at ht
      go_wp2
      go_ret
      exact ⟨rfl, hb⟩
theorem spec_l1At {b : ByteArray} {k : Nat} {w : World} (hk : k < b.size) (hz : b.size ≤ 16777216) (hlo : 48 ≤ PlainAid.bt b k) :
    Calls Try.prog 218 #[.string b, .int .i64 ((k : Int) + 1)] w fun e w' => e = .returned (.int .i64 (PlainAid.bt b k - 48)) ∧ w = w' := by
  have hbb := PlainAid.get_bt b
  have hn1 := PlainAid.bt_le b k
  go_in
  go_wp2
  go_ret
  exact ⟨rfl, rfl⟩
set_option maxRecDepth 100000 in
theorem spec_l1Times {a b : ByteArray} {w : World} (ha : a.size ≤ 16777216) (hz : b.size ≤ 16777216) (hf : fits a b) :
    Calls Try.prog 176 #[.string a, .string b] w fun e w' => e = .returned (.string (timesS a b)) ∧ w = w' := by
  have hE : Hid (timesS a b = strOfNums (timesL a b)) := Lib.hid rfl
  have HF : Hid (fits a b) := hf
  clear hf
  go_in
  go_wp2
  go_loopw [5, 6] (fun v i wr => ∃ (k : Nat) (s : ByteArray), k ≤ b.size ∧ i = .int .i64 (k + 1 : Nat) ∧ v = .string s ∧ s.size = k ∧ Hid (s = strOfNums ((timesL a b).take k)) ∧ w = wr) (fun _ i _ => b.size + 1 - (intOf i).toNat)
  case atStart => exact ⟨0, _, Nat.zero_le _, rfl, rfl, rfl, Lib.hid rfl, rfl⟩
  case round =>
    obtain ⟨k, s, hk, rfl, rfl, hsk, HS, rfl⟩ := hrel
    by_cases hlt : k < b.size
    · have hr := HF.out k hlt
      obtain ⟨q, hq⟩ : ∃ q : Nat, PlainAid.bt b k = (q : Int) + 49 := ⟨(PlainAid.bt b k - 49).toNat, by omega⟩
      have hqa : q < a.size := by omega
      have hq2 : (PlainAid.bt b k - 49).toNat = q := by omega
      have hq3 : PlainAid.bt b k - 48 = (q : Int) + 1 := by omega
      have E := Lib.hid (show (timesL a b)[k]? = some (PlainAid.bt a q) by rw [timesL_at hlt, hq2])
      have hx := one_byte hqa
      have hxs : (a.extract q (q + 1)).size = 1 := by rw [hx]; rfl
      have hsz : (s ++ a.extract q (q + 1)).size = k + 1 := by rw [ByteArray.size_append, hxs, hsk]
      have HS2 := Lib.hid (show s ++ a.extract q (q + 1) = strOfNums ((timesL a b).take (k + 1)) by rw [HS.out, hx, take_succ_some E.out, strOf_append])
      have h48 : 48 ≤ PlainAid.bt b k := by omega
      clear hx
      go_wp2_with (first | (go_at_call 218; refine (spec_l1At hlt hz h48).mono ?_; rw [hq3]; rintro e w' ⟨rfl, rfl⟩))
      go_roundw
      case rel => exact ⟨k + 1, s ++ a.extract q (q + 1), by omega, by go_num, rfl, hsz, HS2, trivial⟩
      case measure => simp [intOf]; omega
    · obtain rfl : k = b.size := by omega
      have e1 := Lib.hid (show s = timesS a b by rw [HS.out, hE.out, List.take_of_length_le (by rw [timesL_len]; exact Nat.le_refl _)])
      go_wp2
      go_ret
      rw [e1.out]
      exact ⟨rfl, rfl⟩
end Go.Proofs.Ytpccbmndgdiloaa
/- The walks through rows under changes, both sides. -/
namespace Go.Proofs.Ytpccbmndgdiloaa
set_option linter.unusedVariables false
set_option linter.unusedSimpArgs false
open Go.ChangeShapes Go.WideShapes Go.ChangeAt Go.RowKit Go.Deep
theorem impl_apply {a c : ByteArray} {w : World} (ha : a.size ≤ 8) (hz : c.size ≤ 16777216) (hg : isDash c = true ∨ validD c = true) :
    Calls Try.prog 180 #[.string a, .string c] w fun e w' => e = .returned (.string (applyR a c)) ∧ Below w.heap.size w w' := by
  have ha2 : a.size ≤ 16777216 := by omega
  have hcs : (chRow a.size c).size ≤ 16777216 := by rw [chRow_size]; omega
  have hft := chRow_fits ha c
  go_in
  go_wp2_with (first | (go_at_call 84; refine (impl_changeRow hz ha hg).mono ?_; rintro e w1 ⟨rfl, hb1⟩) | (go_at_call 208; refine (impl_times ha2 hcs hft).mono ?_; rintro e w2 ⟨rfl, hb2⟩))
  go_ret
  exact ⟨rfl, below_go hb1 hb2⟩
theorem spec_l2Apply {a c : ByteArray} {w : World} (ha : a.size ≤ 8) (hz : c.size ≤ 16777216) :
    Calls Try.prog 181 #[.string a, .string c] w fun e w' => e = .returned (.string (applyR a c)) ∧ Below w.heap.size w w' := by
  have ha2 : a.size ≤ 16777216 := by omega
  have hcs : (chRow a.size c).size ≤ 16777216 := by rw [chRow_size]; omega
  have hft := chRow_fits ha c
  go_in
  go_wp2_with (first | (go_at_call 219; refine (spec_l2Row hz ha).mono ?_; rintro e w1 ⟨rfl, hb1⟩) | (go_at_call 176; refine (spec_l1Times ha2 hcs hft).mono ?_; rintro e w2 ⟨rfl, rfl⟩))
  go_ret
  exact ⟨rfl, hb1⟩
set_option maxRecDepth 100000 in
theorem impl_rowsUnder {A : Option Addr} {N c : Nat} {a : ByteArray} {l : List ByteArray} {w : World} (ha : a.size ≤ 8) (hN : l.length = N) (h : Strs w A l) (hz : N ≤ 16000000) (hs : ∀ s ∈ l, s.size ≤ 16777216) (hg : ∀ s ∈ l, isDash s = true ∨ validD s = true) :
    Calls Try.prog 111 #[.string a, .slice A N c] w fun e w' => ∃ A' c', e = .returned (.slice A' (N + 1) c') ∧
      Owned strE 1 9 w' w.heap.size A' (N + 1) c' (rowsL a l (N + 1)) ∧ Below w.heap.size w w' := by
  subst hN
  have HS := Lib.hid hs
  have HGd := Lib.hid hg
  have h1 : Hid (Owned strE 1 9 (w.alloc (.cells #[.string a] 9)) w.heap.size (some ⟨w.heap.size, 0, none⟩) 1 1 (rowsL a l 1)) := Lib.hid ⟨strE_len, by simp [rowsL], by simpa [rowsL, rAt, strE] using World.ownsRow_lit (e := 9) (base := w.heap.size) (size := 1) w #[.string a] 1 (Nat.le_refl _) (by decide) (by simp)⟩
  clear hs hg
  go_in
  go_wp2
  go_loopw [0, 5, 12] (fun r v i wr => ∃ (k : Nat) (A' : Option Addr) (m c' : Nat), k ≤ l.length ∧ i = .int .i64 k ∧ r = .string (rAt a l k) ∧ v = .slice A' m c' ∧ m = k + 1 ∧ Owned strE 1 9 wr w.heap.size A' m c' (rowsL a l (k + 1)) ∧ Below w.heap.size w wr) (fun _ _ i _ => l.length - (intOf i).toNat)
  case atStart => exact ⟨0, _, _, _, Nat.zero_le _, rfl, rfl, rfl, rfl, h1.out, by (repeat' (first | (with_reducible exact Below.refl _ _) | (with_reducible assumption) | (with_reducible refine below_drewN ?_ _) | (with_reducible refine Below.drew ?_) | (with_reducible refine below_alloc ?_ _) | (with_reducible refine Below.alloc ?_ ?_ _) | (with_reducible refine Below.setCell ?_ ?_ _) | (with_reducible refine below_go ?_ (by with_reducible assumption)) | (with_reducible refine below_then (by with_reducible assumption) ?_ ?_) | go_size))⟩
  case round =>
    obtain ⟨k, A', m, c', hk, rfl, rfl, rfl, rfl, ho, hb⟩ := hrel
    have HO := Lib.hid ho
    have hsz := hb.size
    clear ho
    by_cases hlt : k < l.length
    · obtain ⟨b1, o1, y, rfl, hbb, hy, hcy⟩ := (h.below hb (Nat.le_refl _)).at_str hlt
      have hys := HS.out y (List.mem_of_getElem? hy)
      have hgy := HGd.out y (List.mem_of_getElem? hy)
      have hra : (rAt a l k).size ≤ 8 := by rw [rAt_size]; exact ha
      have E := Lib.hid (rAt_succ (a := a) hy)
      have HT := Lib.hid (rowsL_succ a l (k + 1))
      clear hy
      go_wp2_with (first | (go_at_call 180; refine (impl_apply hra hys hgy).mono ?_; rw [← E.out]; rintro e w1 ⟨rfl, hb1⟩; have HO1 := Lib.hid (HO.out.up hb1); have hsz1 := hb1.size) | (at_builtin; go_must ((refine wpList_append_rec Try.elStr rfl (.tmp 19) (.tmp 21) rfl rfl (HO1.out.alloc _) (rAt a l (k + 1)) rfl (Box.at_ _ [.string (rAt a l (k + 1))] _ ?_) (strE_one _) ?_ (by decide) ?_ ?_; (focus (first | omega | (simp only [World.size_alloc]; done) | (simp only [World.size_alloc]; omega) | (simp; done) | (simp; omega))); (focus (first | omega | (simp only [World.size_alloc]; done) | (simp only [World.size_alloc]; omega) | (simp; done) | (simp; omega))); (focus (first | omega | (simp only [World.size_alloc]; done) | (simp only [World.size_alloc]; omega) | (simp; done) | (simp; omega))); intro A2 c2 w2 ho2 hg2 hb2))))
      go_roundw
      case rel => exact ⟨k + 1, A2, k + 1 + 1, c2, by omega, by go_num, rfl, by go_num, rfl, by rw [HT.out]; exact ho2, ((hb.trans (hb1.mono hsz)).alloc (by omega) _).trans hb2⟩
      case measure => simp [intOf]; omega
    · obtain rfl : k = l.length := by omega
      go_wp2
      go_ret
      exact ⟨_, _, rfl, HO.out, hb⟩
set_option maxRecDepth 100000 in
theorem spec_l4Lead {A : Option Addr} {N c : Nat} {a : ByteArray} {l : List ByteArray} {w : World} (ha : a.size ≤ 8) (hN : l.length = N) (h : Strs w A l) (hz : N ≤ 16000000) (hs : ∀ s ∈ l, s.size ≤ 16777216) :
    Calls Try.prog 126 #[.slice A N c, .string a] w fun e w' => ∃ A' c', e = .returned (.tuple #[.slice A' N c', .string (rAt a l N)]) ∧
      Owned strE 1 9 w' w.heap.size A' N c' (rowsL a l N) ∧ Below w.heap.size w w' := by
  subst hN
  have HS := Lib.hid hs
  clear hs
  go_in
  go_wp2
  go_loopw [6, 7, 13] (fun v r i wr => ∃ (k : Nat) (A' : Option Addr) (m c' : Nat), k ≤ l.length ∧ i = .int .i64 k ∧ r = .string (rAt a l k) ∧ v = .slice A' m c' ∧ m = k ∧ Owned strE 1 9 wr w.heap.size A' m c' (rowsL a l k) ∧ Below w.heap.size w wr) (fun _ _ i _ => l.length - (intOf i).toNat)
  case atStart => exact ⟨0, none, 0, 0, Nat.zero_le _, rfl, rfl, rfl, rfl, Owned.nil strE_len _ _ _, Below.refl _ _⟩
  case round =>
    obtain ⟨k, A', m, c', hk, rfl, rfl, rfl, rfl, ho, hb⟩ := hrel
    have HO := Lib.hid ho
    have hsz := hb.size
    clear ho
    by_cases hlt : m < l.length
    · obtain ⟨b1, o1, y, rfl, hbb, hy, hcy⟩ := (h.below hb (Nat.le_refl _)).at_str hlt
      have hys := HS.out y (List.mem_of_getElem? hy)
      have hra : (rAt a l m).size ≤ 8 := by rw [rAt_size]; exact ha
      have E := Lib.hid (rAt_succ (a := a) hy)
      have HT := Lib.hid (rowsL_succ a l m)
      clear hy
      go_wp2_with (first | (go_at_call 181; refine (spec_l2Apply hra hys).mono ?_; rw [← E.out]; rintro e w3 ⟨rfl, hb3⟩) | (at_builtin; go_must ((refine wpList_append_rec Try.elStr rfl (.tmp 17) (.tmp 19) rfl rfl (HO.out.alloc _) (rAt a l m) rfl (Box.at_ _ [.string (rAt a l m)] _ ?_) (strE_one _) ?_ (by decide) ?_ ?_; (focus (first | omega | (simp only [World.size_alloc]; done) | (simp only [World.size_alloc]; omega) | (simp; done) | (simp; omega))); (focus (first | omega | (simp only [World.size_alloc]; done) | (simp only [World.size_alloc]; omega) | (simp; done) | (simp; omega))); (focus (first | omega | (simp only [World.size_alloc]; done) | (simp only [World.size_alloc]; omega) | (simp; done) | (simp; omega))); intro A2 c2 w2 ho2 hg2 hb2; have hsz2 := hb2.size))))
      go_roundw
      case rel => exact ⟨m + 1, A2, m + 1, c2, by omega, by go_num, rfl, by go_num, rfl, by rw [HT.out]; exact ho2.up hb3, below_go ((hb.alloc hsz _).trans hb2) hb3⟩
      case measure => simp [intOf]; omega
    · obtain rfl : m = l.length := by omega
      go_wp2
      go_ret2
      exact ⟨_, _, rfl, HO.out, hb⟩
end Go.Proofs.Ytpccbmndgdiloaa
/- The walks through rows: good rows, even rows. -/
namespace Go.Proofs.Ytpccbmndgdiloaa
set_option linter.unusedVariables false
set_option linter.unusedSimpArgs false
open Go.ChangeShapes Go.WideShapes Go.ChangeAt Go.RowKit Go.Deep
set_option maxRecDepth 100000 in
theorem spec_l1Even {s : ByteArray} {w : World} (hz : s.size ≤ 16777216) :
    Calls Try.prog 96 #[.string s] w fun e w' => e = .returned (.bool (evenRow s)) ∧ Below w.heap.size w w' := by
  have hb := PlainAid.get_bt s
  have HE : Hid (∀ i, evo s (i + 1) = tg s i i (evo s i)) := Lib.hid (fun _ => rfl)
  go_in
  go_wp2
  go_loopw [3, 4] (fun v i wr => ∃ k : Nat, k ≤ s.size ∧ i = .int .i64 k ∧ v = .bool (evo s k) ∧ Below w.heap.size w wr) (fun _ i _ => s.size - (intOf i).toNat)
  case atStart => exact ⟨0, Nat.zero_le _, rfl, rfl, Below.refl _ _⟩
  case round =>
    obtain ⟨i, hi, rfl, rfl, hbl⟩ := hrel
    by_cases hlt : i < s.size
    · have HE1 := Lib.hid (HE.out i)
      go_wp2
      go_loopw [3, 5] (fun v x wr => ∃ k : Nat, k ≤ i ∧ x = .int .i64 k ∧ v = .bool (tg s i k (evo s i)) ∧ Below w.heap.size w wr) (fun _ x _ => i - (intOf x).toNat)
      case atStart => exact ⟨0, Nat.zero_le _, rfl, rfl, hbl⟩
      case round =>
        obtain ⟨k, hk, rfl, rfl, hb2⟩ := hrel
        by_cases hlt2 : k < i
        · have hks : k < s.size := by omega
          by_cases hc : PlainAid.bt s i < PlainAid.bt s k
          · have E := Lib.hid (tg_yes hc (evo s i))
            go_wp2
            go_quiet (fail)
            go_wp2
            go_roundw
            case rel => exact ⟨k + 1, by omega, by go_num, by rw [E.out], by (repeat' (first | (with_reducible exact Below.refl _ _) | (with_reducible assumption) | (with_reducible refine below_drewN ?_ _) | (with_reducible refine Below.drew ?_) | (with_reducible refine below_alloc ?_ _) | (with_reducible refine Below.alloc ?_ ?_ _) | (with_reducible refine Below.setCell ?_ ?_ _) | (with_reducible refine below_go ?_ (by with_reducible assumption)) | (with_reducible refine below_then (by with_reducible assumption) ?_ ?_) | go_size))⟩
            case measure => simp [intOf]; omega
          · have E := Lib.hid (tg_no hc (evo s i))
            go_wp2
            go_quiet (fail)
            go_wp2
            go_roundw
            case rel => exact ⟨k + 1, by omega, by go_num, by rw [E.out], by (repeat' (first | (with_reducible exact Below.refl _ _) | (with_reducible assumption) | (with_reducible refine below_drewN ?_ _) | (with_reducible refine Below.drew ?_) | (with_reducible refine below_alloc ?_ _) | (with_reducible refine Below.alloc ?_ ?_ _) | (with_reducible refine Below.setCell ?_ ?_ _) | (with_reducible refine below_go ?_ (by with_reducible assumption)) | (with_reducible refine below_then (by with_reducible assumption) ?_ ?_) | go_size))⟩
            case measure => simp [intOf]; omega
        · obtain rfl : k = i := by omega
          go_wp2
          go_roundw
          case rel => exact ⟨k + 1, by omega, by go_num, by rw [HE1.out], hb2⟩
          case measure => simp [intOf]; omega
    · obtain rfl : i = s.size := by omega
      go_wp2
      go_ret
      exact ⟨rfl, hbl⟩
set_option maxRecDepth 100000 in
theorem impl_even {s : ByteArray} {w : World} (hz : s.size ≤ 16777216) :
    Calls Try.prog 74 #[.string s] w fun e w' => e = .returned (.bool (evenRow s)) ∧ Below w.heap.size w w' := by
  have hb := PlainAid.get_bt s
  have HE : Hid (∀ i, evo s (i + 1) = tg s i i (evo s i)) := Lib.hid (fun _ => rfl)
  go_in
  go_wp2
  go_loopw [3, 8] (fun v i wr => ∃ k : Nat, k ≤ s.size ∧ i = .int .i64 k ∧ v = .bool (evo s k) ∧ Below w.heap.size w wr) (fun _ i _ => s.size - (intOf i).toNat)
  case atStart => exact ⟨0, Nat.zero_le _, rfl, rfl, Below.refl _ _⟩
  case round =>
    obtain ⟨i, hi, rfl, rfl, hbl⟩ := hrel
    by_cases hlt : i < s.size
    · have HE1 := Lib.hid (HE.out i)
      go_wp2
      go_loopw [3, 12] (fun v x wr => ∃ k : Nat, k ≤ i ∧ x = .int .i64 k ∧ v = .bool (tg s i k (evo s i)) ∧ Below w.heap.size w wr) (fun _ x _ => i - (intOf x).toNat)
      case atStart => exact ⟨0, Nat.zero_le _, rfl, rfl, hbl⟩
      case round =>
        obtain ⟨k, hk, rfl, rfl, hb2⟩ := hrel
        by_cases hlt2 : k < i
        · have hks : k < s.size := by omega
          by_cases hc : PlainAid.bt s i < PlainAid.bt s k
          · have E := Lib.hid (tg_yes hc (evo s i))
            go_wp2
            go_quiet (fail)
            go_wp2
            go_roundw
            case rel => exact ⟨k + 1, by omega, by go_num, by rw [E.out], by (repeat' (first | (with_reducible exact Below.refl _ _) | (with_reducible assumption) | (with_reducible refine below_drewN ?_ _) | (with_reducible refine Below.drew ?_) | (with_reducible refine below_alloc ?_ _) | (with_reducible refine Below.alloc ?_ ?_ _) | (with_reducible refine Below.setCell ?_ ?_ _) | (with_reducible refine below_go ?_ (by with_reducible assumption)) | (with_reducible refine below_then (by with_reducible assumption) ?_ ?_) | go_size))⟩
            case measure => simp [intOf]; omega
          · have E := Lib.hid (tg_no hc (evo s i))
            go_wp2
            go_quiet (fail)
            go_wp2
            go_roundw
            case rel => exact ⟨k + 1, by omega, by go_num, by rw [E.out], by (repeat' (first | (with_reducible exact Below.refl _ _) | (with_reducible assumption) | (with_reducible refine below_drewN ?_ _) | (with_reducible refine Below.drew ?_) | (with_reducible refine below_alloc ?_ _) | (with_reducible refine Below.alloc ?_ ?_ _) | (with_reducible refine Below.setCell ?_ ?_ _) | (with_reducible refine below_go ?_ (by with_reducible assumption)) | (with_reducible refine below_then (by with_reducible assumption) ?_ ?_) | go_size))⟩
            case measure => simp [intOf]; omega
        · obtain rfl : k = i := by omega
          go_wp2
          go_roundw
          case rel => exact ⟨k + 1, by omega, by go_num, by rw [HE1.out], hb2⟩
          case measure => simp [intOf]; omega
    · obtain rfl : i = s.size := by omega
      go_wp2
      go_ret
      exact ⟨rfl, hbl⟩
set_option maxRecDepth 100000 in
theorem spec_l1Row {s : ByteArray} {w : World} (hz : s.size ≤ 16777216) :
    Calls Try.prog 178 #[.string s] w fun e w' => e = .returned (.bool (goodRow s)) ∧ Below w.heap.size w w' := by
  have hb := PlainAid.get_bt s
  rcases h1 : inB s.size 3 8
  · have e0 := Lib.hid (goodRow_stage h1)
    go_in
    go_wp2_with (first | (go_at_call 104; refine (spec_l1In _ _ _ _).mono ?_; rintro e w' ⟨rfl, rfl⟩))
    go_ret
    exact ⟨ret_bool e0.out.symm, Below.refl _ _⟩
  have hs8 := inB_t h1
  have HG := Lib.hid (goodRow_all h1)
  have HO : Hid (∀ i, okDig s i = (inB (dg s i) 1 s.size && (List.range i).all (fresh s i))) := Lib.hid (fun _ => rfl)
  go_in
  go_wp2_with (first | (go_at_call 104; refine (spec_l1In _ _ _ _).mono ?_; rintro e w' ⟨rfl, rfl⟩))
  go_loopw [3] (fun i wr => ∃ k : Nat, k ≤ s.size ∧ i = .int .i64 k ∧ Hid (∀ j, j < k → okDig s j = true) ∧ Below w.heap.size w wr) (fun i _ => s.size - (intOf i).toNat)
  case atStart => exact ⟨0, Nat.zero_le _, rfl, Lib.hid (fun j hj => absurd hj (by omega)), Below.refl _ _⟩
  case round =>
    obtain ⟨i, hi, rfl, HK, hbl⟩ := hrel
    by_cases hlt : i < s.size
    · have hn0 := PlainAid.bt_nonneg s i
      have hn1 := PlainAid.bt_le s i
      have hdg : PlainAid.bt s i - 48 = dg s i := rfl
      have EO := Lib.hid (HO.out i)
      by_cases hlo : PlainAid.bt s i < 49
      · have e0 := Lib.hid (show okDig s i = false by rw [EO.out, show inB (dg s i) 1 s.size = false by rw [inB, decide_eq_false_iff_not, ← hdg]; omega]; rfl)
        go_wp2
        go_ret
        refine ⟨ret_bool ?_, hbl⟩
        rw [HG.out, all_no hlt e0.out]
      by_cases hhi : (s.size : Int) < dg s i
      · have e0 := Lib.hid (show okDig s i = false by rw [EO.out, show inB (dg s i) 1 s.size = false by rw [inB, decide_eq_false_iff_not]; omega]; rfl)
        go_wp2
        go_ret
        refine ⟨ret_bool ?_, hbl⟩
        rw [HG.out, all_no hlt e0.out]
      have e1 := Lib.hid (show okDig s i = (List.range i).all (fresh s i) by rw [EO.out, show inB (dg s i) 1 s.size = true by rw [inB, decide_eq_true_iff, ← hdg]; omega]; rfl)
      have HF : Hid (∀ k, fresh s i k = !(PlainAid.bt s k == PlainAid.bt s i)) := Lib.hid (fun k => by
        rw [fresh, Bool.eq_iff_iff]
        simp [dg])
      go_wp2
      go_loopw [4] (fun x wr => ∃ k : Nat, k ≤ i ∧ x = .int .i64 k ∧ Hid (∀ j, j < k → fresh s i j = true) ∧ Below w.heap.size w wr) (fun x _ => i - (intOf x).toNat)
      case atStart => exact ⟨0, Nat.zero_le _, rfl, Lib.hid (fun j hj => absurd hj (by omega)), hbl⟩
      case round =>
        obtain ⟨k, hk, rfl, HJ, hb2⟩ := hrel
        by_cases hlt2 : k < i
        · have hks : k < s.size := by omega
          have EF := Lib.hid (HF.out k)
          rcases hc : (PlainAid.bt s k == PlainAid.bt s i)
          · have e2 := Lib.hid (show fresh s i k = true by rw [EF.out, hc]; rfl)
            go_wp2
            go_quiet (fail)
            go_wp2
            go_roundw
            case rel => exact ⟨k + 1, by omega, by go_num, Lib.hid (upto_succ HJ.out e2.out), by (repeat' (first | (with_reducible exact Below.refl _ _) | (with_reducible assumption) | (with_reducible refine below_drewN ?_ _) | (with_reducible refine Below.drew ?_) | (with_reducible refine below_alloc ?_ _) | (with_reducible refine Below.alloc ?_ ?_ _) | (with_reducible refine Below.setCell ?_ ?_ _) | (with_reducible refine below_go ?_ (by with_reducible assumption)) | (with_reducible refine below_then (by with_reducible assumption) ?_ ?_) | go_size))⟩
            case measure => simp [intOf]; omega
          · have e2 := Lib.hid (show fresh s i k = false by rw [EF.out, hc]; rfl)
            go_wp2
            go_quiet (fail)
            go_wp2
            go_ret
            refine ⟨ret_bool ?_, by (repeat' (first | (with_reducible exact Below.refl _ _) | (with_reducible assumption) | (with_reducible refine below_drewN ?_ _) | (with_reducible refine Below.drew ?_) | (with_reducible refine below_alloc ?_ _) | (with_reducible refine Below.alloc ?_ ?_ _) | (with_reducible refine Below.setCell ?_ ?_ _) | (with_reducible refine below_go ?_ (by with_reducible assumption)) | (with_reducible refine below_then (by with_reducible assumption) ?_ ?_) | go_size))⟩
            rw [HG.out, all_no hlt (by rw [e1.out, all_no hlt2 e2.out])]
        · obtain rfl : k = i := by omega
          have e3 := Lib.hid (show okDig s k = true by rw [e1.out, all_yes (fun j hj => HJ.out j hj)])
          go_wp2
          go_roundw
          case rel => exact ⟨k + 1, by omega, by go_num, Lib.hid (upto_succ HK.out e3.out), hb2⟩
          case measure => simp [intOf]; omega
    · obtain rfl : i = s.size := by omega
      go_wp2
      go_ret
      refine ⟨ret_bool ?_, hbl⟩
      rw [HG.out, all_yes (fun j hj => HK.out j hj)]
end Go.Proofs.Ytpccbmndgdiloaa
/- GoodRow of the program: the bits. -/
namespace Go.Proofs.Ytpccbmndgdiloaa
set_option linter.unusedVariables false
set_option linter.unusedSimpArgs false
open Go.ChangeShapes Go.WideShapes Go.ChangeAt Go.RowKit Go.Deep
set_option maxRecDepth 100000 in
theorem impl_GoodRow {s : ByteArray} {w : World} (hz : s.size ≤ 16777216) :
    Calls Try.prog 73 #[.string s] w fun e w' => e = .returned (.bool (goodRow s)) ∧ w = w' := by
  have hb := PlainAid.get_bt s
  rcases h1 : inB s.size 3 8
  · have e0 := Lib.hid (goodRow_stage h1)
    go_in
    go_wp2_with (first | (go_at_call 110; refine (impl_isStage _ _).mono ?_; rintro e w' ⟨rfl, rfl⟩))
    go_ret
    exact ⟨ret_bool e0.out.symm, rfl⟩
  have hs8 := inB_t h1
  have HG := Lib.hid (goodRow_all h1)
  have HO : Hid (∀ i, okDig s i = (inB (dg s i) 1 s.size && (List.range i).all (fresh s i))) := Lib.hid (fun _ => rfl)
  go_in
  go_wp2_with (first | (go_at_call 110; refine (impl_isStage _ _).mono ?_; rintro e w' ⟨rfl, rfl⟩))
  go_loopw [3, 12] (fun v i wr => ∃ k : Nat, k ≤ s.size ∧ i = .int .i64 k ∧ v = .int .i64 (mask s k) ∧ mask s k < 256 ∧ Hid (∀ j, j < k → okDig s j = true) ∧ w = wr) (fun _ i _ => s.size - (intOf i).toNat)
  case atStart => exact ⟨0, Nat.zero_le _, rfl, rfl, by rw [mask_0]; decide, Lib.hid (fun j hj => absurd hj (by omega)), rfl⟩
  case round =>
    obtain ⟨i, hi, rfl, rfl, hm, HK, rfl⟩ := hrel
    by_cases hlt : i < s.size
    · have hn0 := PlainAid.bt_nonneg s i
      have hn1 := PlainAid.bt_le s i
      have hw := wrap_bt s i
      have hdg : dg s i = PlainAid.bt s i - 48 := rfl
      have EO := Lib.hid (HO.out i)
      by_cases hlo : PlainAid.bt s i < 49
      · have e0 := Lib.hid (show okDig s i = false by rw [EO.out, show inB (dg s i) 1 s.size = false by rw [inB, decide_eq_false_iff_not]; omega]; rfl)
        go_wp2
        go_ret
        refine ⟨ret_bool ?_, rfl⟩
        rw [HG.out, all_no hlt e0.out]
      by_cases hhi : (s.size : Int) ≤ PlainAid.bt s i - 49
      · have e0 := Lib.hid (show okDig s i = false by rw [EO.out, show inB (dg s i) 1 s.size = false by rw [inB, decide_eq_false_iff_not]; omega]; rfl)
        go_wp2
        go_ret
        refine ⟨ret_bool ?_, rfl⟩
        rw [HG.out, all_no hlt e0.out]
      have hB8 : (PlainAid.bt s i - 49).toNat < 8 := by omega
      have hBd : (PlainAid.bt s i - 49).toNat = (dg s i - 1).toNat := by omega
      have hA := bits_and _ hm _ hB8
      have hOr := (bits_or _ hm _ hB8).1
      have hOr8 := (bits_or _ hm _ hB8).2
      have hmk : (mask s i ||| (1 <<< (PlainAid.bt s i - 49).toNat)) = mask s (i + 1) := by rw [hBd]; rfl
      rw [hmk] at hOr hOr8
      have e1 := Lib.hid (show okDig s i = !(mask s i).testBit (PlainAid.bt s i - 49).toNat by
        rw [EO.out, show inB (dg s i) 1 s.size = true by (rw [inB, decide_eq_true_iff]; omega), hBd, mask_bit i (fun j hj => by
          have := HK.out j hj
          rw [HO.out, Bool.and_eq_true] at this
          exact (inB_t this.1).1) (by omega), Bool.not_not]
        rfl)
      clear hmk hBd hdg
      rcases hbit : (mask s i).testBit (PlainAid.bt s i - 49).toNat
      · rw [hbit] at hA
        have e2 := Lib.hid (show okDig s i = true by rw [e1.out, hbit]; rfl)
        clear hbit
        go_wp2
        go_roundw
        case rel => exact ⟨i + 1, by omega, by go_num, rfl, hOr8, Lib.hid (upto_succ HK.out e2.out), trivial⟩
        case measure => simp [intOf]; omega
      · rw [hbit] at hA
        have e2 := Lib.hid (show okDig s i = false by rw [e1.out, hbit]; rfl)
        clear hbit
        go_wp2
        go_ret
        refine ⟨ret_bool ?_, rfl⟩
        rw [HG.out, all_no hlt e2.out]
    · obtain rfl : i = s.size := by omega
      go_wp2
      go_ret
      refine ⟨ret_bool ?_, rfl⟩
      rw [HG.out, all_yes (fun j hj => HK.out j hj)]
end Go.Proofs.Ytpccbmndgdiloaa
/- The walks through the change between two rows, both sides. -/
namespace Go.Proofs.Ytpccbmndgdiloaa
set_option linter.unusedVariables false
set_option linter.unusedSimpArgs false
open Go.ChangeShapes Go.WideShapes Go.ChangeAt Go.RowKit Go.Deep
theorem chs_len {n : Nat} (h : n ≤ 8) : (chsRaw n).length ≤ 34 := by
  rw [chsRaw]
  exact Nat.le_trans (List.length_filter_le _ _) (by rw [List.length_map]; exact fromK_le h 1)
theorem btw_eq {a b : ByteArray} {k i : Nat} {sw : Bool} (h : PlainAid.bt a i = PlainAid.bt b i) : btwK a b (k + 1) i sw = btwK a b k (i + 1) sw := by
  rcases k with _ | k
  · show (if PlainAid.bt a i = PlainAid.bt b i then sw else false) = sw
    exact if_pos h
  · rw [btwK, if_pos h]
theorem btw_no1 {a b : ByteArray} {i : Nat} {sw : Bool} (h : ¬ PlainAid.bt a i = PlainAid.bt b i) : btwK a b 1 i sw = false := by rw [btwK, if_neg h]
theorem btw_swap {a b : ByteArray} {k i : Nat} {sw : Bool} (h : ¬ PlainAid.bt a i = PlainAid.bt b i) (h1 : PlainAid.bt a i = PlainAid.bt b (i + 1)) (h2 : PlainAid.bt a (i + 1) = PlainAid.bt b i) : btwK a b (k + 2) i sw = btwK a b k (i + 2) true := by
  rw [btwK, if_neg h, if_pos ⟨h1, h2⟩]
theorem btw_no {a b : ByteArray} {k i : Nat} {sw : Bool} (h : ¬ PlainAid.bt a i = PlainAid.bt b i) (h1 : ¬ (PlainAid.bt a i = PlainAid.bt b (i + 1) ∧ PlainAid.bt a (i + 1) = PlainAid.bt b i)) : btwK a b (k + 2) i sw = false := by
  rw [btwK, if_neg h, if_neg h1]
set_option maxHeartbeats 1000000 in
set_option maxRecDepth 100000 in
theorem impl_between {a b : ByteArray} {n : Nat} {w : World} (ha : a.size = n) (hb : b.size = n) (hn : n ≤ 8) :
    Calls Try.prog 182 #[.string a, .string b] w fun e w' => ∃ s, e = .returned (.tuple #[.string s, .bool (btwB a b)]) ∧ s.size ≤ 16 ∧ Below w.heap.size w w' := by
  have ga := PlainAid.get_bt a
  have gb := PlainAid.get_bt b
  have ha1 : a.size ≤ n := by omega
  have ha2 : n ≤ a.size := by omega
  have hb1 : b.size ≤ n := by omega
  have hb2 : n ≤ b.size := by omega
  have HB : Hid (btwB a b = btwK a b n 0 false) := Lib.hid (by rw [btwB, ha])
  have hr1 : n ≤ (roundsS a.size).size := by rw [rounds_size _ (by omega)]; omega
  clear ha hb
  go_in
  go_wp2
  go_loopw [6, 7, 8] (fun c sw i wr => ∃ (k i' : Nat) (s : ByteArray) (f : Bool), i' + k = n ∧ i = .int .i64 i' ∧ c = .string s ∧ sw = .bool f ∧ s.size ≤ i' ∧ Hid (btwB a b = btwK a b k i' f) ∧ Below w.heap.size w wr) (fun _ _ i _ => n + 2 - (intOf i).toNat)
  case atStart => exact ⟨n, 0, ByteArray.empty, false, by omega, rfl, rfl, rfl, Nat.le_refl _, HB, Below.refl _ _⟩
  case round =>
    obtain ⟨k, i, s, f, hik, rfl, rfl, rfl, hs, HK, hbl⟩ := hrel
    rcases k with _ | k
    · have hI : ¬ i < a.size := by omega
      have e1 := Lib.hid (show btwB a b = f by rw [HK.out, btwK])
      by_cases h0 : 0 < s.size
      · obtain ⟨e3, e4⟩ := some_bytes h0
        go_wp2
        go_ret2
        rw [e1.out]
        exact ⟨s, rfl, by omega, hbl⟩
      · obtain ⟨e3, e4⟩ := no_bytes h0
        go_wp2
        go_ret2
        rw [e1.out]
        exact ⟨_, rfl, by decide, hbl⟩
    · have hI : i < a.size := by omega
      have hJ : i < b.size := by omega
      by_cases hab : PlainAid.bt a i = PlainAid.bt b i
      · have e1 := Lib.hid (btw_eq (k := k) (sw := f) hab)
        have hab1 : (PlainAid.bt a i == PlainAid.bt b i) = true := by simpa using hab
        have HAB := Lib.hid hab
        clear hab
        go_wp2
        go_quiet (fail)
        go_wp2_with (first | (go_at_call 102; refine (impl_rounds (by omega)).mono ?_; rintro e w' ⟨rfl, rfl⟩))
        go_roundw
        case rel => exact ⟨k, i + 1, _, f, by omega, by go_num, rfl, rfl, by simp; omega, Lib.hid (by rw [HK.out, e1.out]), by (repeat' (first | (with_reducible exact Below.refl _ _) | (with_reducible assumption) | (with_reducible refine below_drewN ?_ _) | (with_reducible refine Below.drew ?_) | (with_reducible refine below_alloc ?_ _) | (with_reducible refine Below.alloc ?_ ?_ _) | (with_reducible refine Below.setCell ?_ ?_ _) | (with_reducible refine below_go ?_ (by with_reducible assumption)) | (with_reducible refine below_then (by with_reducible assumption) ?_ ?_) | go_size))⟩
        case measure => simp [intOf]; omega
      · have hab1 : (PlainAid.bt a i == PlainAid.bt b i) = false := by simpa using hab
        rcases k with _ | k
        · have e1 := Lib.hid (show btwB a b = false by rw [HK.out]; exact btw_no1 hab)
          have hI2 : ¬ i + 1 < a.size := by omega
          have hw := wrap_id (x := (i : Int) + 1) (by omega)
          have hd : decide ((i : Int) + 1 < (a.size : Int)) = false := decide_eq_false (by omega)
          clear hab
          go_wp2
          go_quiet (fail)
          go_wp2
          go_quiet (fail)
          clear hw hd
          go_wp2
          go_ret2
          rw [e1.out]
          exact ⟨_, rfl, by decide, by (repeat' (first | (with_reducible exact Below.refl _ _) | (with_reducible assumption) | (with_reducible refine below_drewN ?_ _) | (with_reducible refine Below.drew ?_) | (with_reducible refine below_alloc ?_ _) | (with_reducible refine Below.alloc ?_ ?_ _) | (with_reducible refine Below.setCell ?_ ?_ _) | (with_reducible refine below_go ?_ (by with_reducible assumption)) | (with_reducible refine below_then (by with_reducible assumption) ?_ ?_) | go_size))⟩
        · have hI2 : i + 1 < a.size := by omega
          have hJ2 : i + 1 < b.size := by omega
          by_cases h1 : PlainAid.bt a i = PlainAid.bt b (i + 1)
          · have h11 : (PlainAid.bt a i == PlainAid.bt b (i + 1)) = true := by simpa using h1
            by_cases h2 : PlainAid.bt a (i + 1) = PlainAid.bt b i
            · have h21 : (PlainAid.bt a (i + 1) == PlainAid.bt b i) = true := by simpa using h2
              have e1 := Lib.hid (show btwB a b = btwK a b k (i + 2) true by rw [HK.out]; exact btw_swap hab h1 h2)
              have hw := wrap_id (x := (i : Int) + 1) (by omega)
              have hd : decide ((i : Int) + 1 < (a.size : Int)) = true := decide_eq_true (by omega)
              have ht : ((i : Int) + 1).toNat = i + 1 := by omega
              clear hab h1 h2
              go_wp2
              go_quiet (fail)
              go_wp2
              go_quiet (fail)
              clear hw hd ht
              go_wp2
              go_roundw
              case rel => exact ⟨k, i + 2, s, true, by omega, by go_num, rfl, rfl, by omega, Lib.hid e1.out, by (repeat' (first | (with_reducible exact Below.refl _ _) | (with_reducible assumption) | (with_reducible refine below_drewN ?_ _) | (with_reducible refine Below.drew ?_) | (with_reducible refine below_alloc ?_ _) | (with_reducible refine Below.alloc ?_ ?_ _) | (with_reducible refine Below.setCell ?_ ?_ _) | (with_reducible refine below_go ?_ (by with_reducible assumption)) | (with_reducible refine below_then (by with_reducible assumption) ?_ ?_) | go_size))⟩
              case measure => simp [intOf]; omega
            · have h21 : (PlainAid.bt a (i + 1) == PlainAid.bt b i) = false := by simpa using h2
              have e1 := Lib.hid (show btwB a b = false by rw [HK.out]; exact btw_no hab (fun q => h2 q.2))
              have hw := wrap_id (x := (i : Int) + 1) (by omega)
              have hd : decide ((i : Int) + 1 < (a.size : Int)) = true := decide_eq_true (by omega)
              have ht : ((i : Int) + 1).toNat = i + 1 := by omega
              clear hab h1 h2
              go_wp2
              go_quiet (fail)
              go_wp2
              go_quiet (fail)
              clear hw hd ht
              go_wp2
              go_ret2
              rw [e1.out]
              exact ⟨_, rfl, by decide, by (repeat' (first | (with_reducible exact Below.refl _ _) | (with_reducible assumption) | (with_reducible refine below_drewN ?_ _) | (with_reducible refine Below.drew ?_) | (with_reducible refine below_alloc ?_ _) | (with_reducible refine Below.alloc ?_ ?_ _) | (with_reducible refine Below.setCell ?_ ?_ _) | (with_reducible refine below_go ?_ (by with_reducible assumption)) | (with_reducible refine below_then (by with_reducible assumption) ?_ ?_) | go_size))⟩
          · have h11 : (PlainAid.bt a i == PlainAid.bt b (i + 1)) = false := by simpa using h1
            have e1 := Lib.hid (show btwB a b = false by rw [HK.out]; exact btw_no hab (fun q => h1 q.1))
            have hw := wrap_id (x := (i : Int) + 1) (by omega)
            have hd : decide ((i : Int) + 1 < (a.size : Int)) = true := decide_eq_true (by omega)
            have ht : ((i : Int) + 1).toNat = i + 1 := by omega
            clear hab h1
            go_wp2
            go_quiet (fail)
            go_wp2
            go_quiet (fail)
            clear hw hd ht
            go_wp2
            go_ret2
            rw [e1.out]
            exact ⟨_, rfl, by decide, by (repeat' (first | (with_reducible exact Below.refl _ _) | (with_reducible assumption) | (with_reducible refine below_drewN ?_ _) | (with_reducible refine Below.drew ?_) | (with_reducible refine below_alloc ?_ _) | (with_reducible refine Below.alloc ?_ ?_ _) | (with_reducible refine Below.setCell ?_ ?_ _) | (with_reducible refine below_go ?_ (by with_reducible assumption)) | (with_reducible refine below_then (by with_reducible assumption) ?_ ?_) | go_size))⟩
theorem spec_l1Two {a b : ByteArray} {w : World} (ha : goodRow a = true) (hb : goodRow b = true) (e : a.size = b.size) :
    Calls Try.prog 224 #[.string a, .string b] w fun e w' => e = .returned (.bool true) ∧ Below w.heap.size w w' := by
  have h1 := goodRow_n ha; have h2 := goodRow_n hb
  have e1 : ((a.size : Int) == (b.size : Int)) = true := beq_iff_eq.2 (by omega)
  have HA := Lib.hid ha; have HB := Lib.hid hb
  clear ha hb e
  go_in
  go_wp2_with fail
  refine (spec_l1Row (by omega)).mono ?_; rw [HA.out]; rintro e w1 ⟨rfl, hb1⟩
  go_wp2_with fail
  refine (spec_l1Row (by omega)).mono ?_; rw [HB.out]; rintro e w2 ⟨rfl, hb2⟩
  go_wp2
  go_ret
  exact ⟨rfl, below_go hb1 hb2⟩
set_option maxRecDepth 100000 in
theorem spec_BetweenRows {a b : ByteArray} {w : World} (ha : goodRow a = true) (hb : goodRow b = true) (e : a.size = b.size) :
    Calls Try.prog 188 #[.string a, .string b] w fun e w' => ∃ s, e = .returned (.tuple #[.string s, .bool (btwB a b)]) ∧ s.size ≤ 16 ∧ Below w.heap.size w w' := by
  have h1 := goodRow_n ha
  have HC := Lib.hid (btw_change ha e)
  have HE := Lib.hid e
  clear e
  go_in
  go_wp2_with fail
  refine (spec_l1Two ha hb HE.out).mono ?_; rintro e w1 ⟨rfl, hb1⟩
  go_wp2_with fail
  refine (spec_l2All (by omega)).mono ?_; rintro e w2 ⟨A, c, L, rfl, ho, hp, hb2⟩
  have hB2 := below_go hb1 hb2
  have HL := Lib.hid (show (∃ c ∈ L, applyR a c = b) ↔ btwB a b = true from by
    rw [HC.out]
    exact ⟨fun ⟨c, hc, he⟩ => ⟨c, hp.subset hc, he⟩, fun ⟨c, hc, he⟩ => ⟨c, hp.symm.subset hc, he⟩⟩)
  have HG := Lib.hid (show ∀ c ∈ L, c.size ≤ 6 from fun c hc => goodChange_small (mem_chs.1 (hp.subset hc)).2)
  have hll : L.length ≤ 34 := by rw [hp.length_eq]; exact chs_len (by omega)
  clear ha hb hp
  go_wp2
  go_loopw [16] (fun i wr => ∃ k : Nat, k ≤ L.length ∧ i = .int .i64 k ∧ Hid (∀ j c, j < k → L[j]? = some c → applyR a c ≠ b) ∧ Below w2.heap.size w2 wr) (fun i _ => L.length - (intOf i).toNat)
  case atStart => exact ⟨0, Nat.zero_le _, rfl, Lib.hid (fun j c hj => absurd hj (by omega)), Below.refl _ _⟩
  case round =>
    obtain ⟨k, hk, rfl, HK, hb⟩ := hrel
    by_cases hlt : k < L.length
    · obtain ⟨b3, o3, x, rfl, _, hx, hcx⟩ := (ho.up hb).recs.at_str hlt
      have hxs := HG.out x (List.mem_of_getElem? hx)
      have HX := Lib.hid hx
      clear hx ho
      go_wp2_with fail
      refine (spec_l2Apply (by omega) (by omega)).mono ?_; rintro e w3 ⟨rfl, hb3⟩
      have hB3 := hb.trans (hb3.mono hb.size)
      by_cases hab : applyR a x = b
      · have e1 := Lib.hid (show btwB a b = true from HL.out.1 ⟨x, List.mem_of_getElem? HX.out, hab⟩)
        have e2 : ((applyR a x).toList == b.toList) = true := by rw [hab]; simp
        clear hab
        go_wp2
        go_ret2
        rw [e1.out]
        exact ⟨x, rfl, by omega, below_go hB2 hB3⟩
      · have e2 : ((applyR a x).toList == b.toList) = false := by
          rw [beq_eq_false_iff_ne]
          exact fun q => hab (toList_inj q)
        have HN := Lib.hid hab
        clear hab
        go_wp2
        go_roundw
        case rel => exact ⟨k + 1, by omega, by go_num, Lib.hid (fun j c hj hc => by
          rcases Nat.lt_succ_iff_lt_or_eq.1 hj with h | rfl
          · exact HK.out j c h hc
          · rw [HX.out] at hc; injection hc with hc; subst hc; exact HN.out), hB3⟩
        case measure => simp [intOf]; omega
    · have e1 := Lib.hid (show btwB a b = false by
        rcases h : btwB a b
        · rfl
        · obtain ⟨c, hc, he⟩ := HL.out.2 h
          obtain ⟨j, hj⟩ := List.getElem?_of_mem hc
          exact absurd he (HK.out j c (by have := (List.getElem?_eq_some_iff.1 hj).1; omega) hj))
      go_wp2
      go_ret2
      rw [e1.out]
      exact ⟨_, rfl, by decide, below_go hB2 hb⟩
end Go.Proofs.Ytpccbmndgdiloaa
/- The walks through lists of rows: which are good, their signs. -/
namespace Go.Proofs.Ytpccbmndgdiloaa
set_option linter.unusedVariables false
set_option linter.unusedSimpArgs false
open Go.ChangeShapes Go.WideShapes Go.ChangeAt Go.RowKit Go.Deep
theorem impl_isRowOf {s : ByteArray} {n : Nat} {w : World} (hz : s.size ≤ 16777216) :
    Calls Try.prog 170 #[.int .i64 n, .string s] w fun e w' => e = .returned (.bool (goodRow s && (s.size == n))) ∧ w = w' := by
  by_cases h1 : s.size = n
  · have h2 : ((s.size : Int) == (n : Int)) = true := beq_iff_eq.2 (by omega)
    have e0 := Lib.hid (show (goodRow s && (s.size == n)) = goodRow s by rw [show (s.size == n) = true from beq_iff_eq.2 h1, Bool.and_true])
    clear h1
    go_in
    go_wp2_with (first | (go_at_call 73; refine (impl_GoodRow hz).mono ?_; rintro e w' ⟨rfl, rfl⟩))
    go_ret
    exact ⟨ret_bool e0.out.symm, rfl⟩
  · have h2 : ((s.size : Int) == (n : Int)) = false := beq_eq_false_iff_ne.2 (by omega)
    have e0 := Lib.hid (show (goodRow s && (s.size == n)) = false by rw [show (s.size == n) = false from beq_eq_false_iff_ne.2 h1, Bool.and_false])
    clear h1
    go_in
    go_wp2
    go_ret
    exact ⟨ret_bool e0.out.symm, rfl⟩
set_option maxRecDepth 100000 in
theorem impl_GoodRows {A : Option Addr} {N c : Nat} {l : List ByteArray} {w : World} (hN : l.length = N) (h : Strs w A l) (hz : N ≤ 16777216) (hs : ∀ s ∈ l, s.size ≤ 16777216) :
    Calls Try.prog 89 #[.slice A N c] w fun e w' => e = .returned (.bool (goodRows l)) ∧ w = w' := by
  subst hN
  have HG : Hid (goodRows l = ((List.range l.length).all (okRow l) && decide (l.length ≤ 800))) := Lib.hid rfl
  have HS := Lib.hid hs
  clear hs
  by_cases h8 : l.length ≤ 800
  · go_in
    go_wp2
    go_loopw [10] (fun i wr => ∃ k : Nat, k ≤ l.length ∧ i = .int .i64 k ∧ Hid (∀ j, j < k → okRow l j = true) ∧ w = wr) (fun i _ => l.length - (intOf i).toNat)
    case atStart => exact ⟨0, Nat.zero_le _, rfl, Lib.hid (fun j hj => absurd hj (by omega)), rfl⟩
    case round =>
      obtain ⟨k, hk, rfl, HK, rfl⟩ := hrel
      by_cases hlt : k < l.length
      · obtain ⟨b1, o1, y, rfl, hbb, hy, hcy⟩ := h.at_str hlt
        obtain ⟨b2, o2, x, e, _, hx, hcx⟩ := h.at_str (k := 0) (by omega)
        injection e with e
        injection e with e1 e2
        subst e1 e2
        simp only [Nat.add_zero] at hcx
        have hys := HS.out y (List.mem_of_getElem? hy)
        have hxs := HS.out x (List.mem_of_getElem? hx)
        have E := Lib.hid (okRow_at hx hy)
        have hl0 : 0 < l.length := by omega
        clear hx hy h
        rcases hg : (goodRow y && (y.size == x.size))
        · have e0 := Lib.hid (show okRow l k = false by rw [E.out, hg])
          have hg1 := Lib.hid hg
          clear hg
          go_wp2_with (first | (go_at_call 170; refine (impl_isRowOf hys).mono ?_; rw [hg1.out]; rintro e w' ⟨rfl, rfl⟩))
          go_ret
          refine ⟨ret_bool ?_, rfl⟩
          rw [HG.out, all_bad hlt e0.out]
        · have e0 := Lib.hid (show okRow l k = true by rw [E.out, hg])
          have hg1 := Lib.hid hg
          clear hg
          go_wp2_with (first | (go_at_call 170; refine (impl_isRowOf hys).mono ?_; rw [hg1.out]; rintro e w' ⟨rfl, rfl⟩))
          go_roundw
          case rel => exact ⟨k + 1, by omega, by go_num, Lib.hid (upto_succ HK.out e0.out), trivial⟩
          case measure => simp [intOf]; omega
      · obtain rfl : k = l.length := by omega
        go_wp2
        go_ret
        refine ⟨ret_bool ?_, rfl⟩
        rw [HG.out, all_good (fun j hj => HK.out j hj), decide_eq_true h8]
  · have e0 := Lib.hid (show goodRows l = false by rw [HG.out, decide_eq_false h8, Bool.and_false])
    go_in
    go_wp2
    go_ret
    exact ⟨ret_bool e0.out.symm, rfl⟩
set_option maxRecDepth 100000 in
theorem spec_l6Rows {A : Option Addr} {N c : Nat} {l : List ByteArray} {w : World} (hN : l.length = N) (h : Strs w A l) (hz : N ≤ 16777216) (hs : ∀ s ∈ l, s.size ≤ 16777216) :
    Calls Try.prog 95 #[.slice A N c] w fun e w' => e = .returned (.bool (goodRows l)) ∧ Below w.heap.size w w' := by
  subst hN
  have HG : Hid (goodRows l = ((List.range l.length).all (okRow l) && decide (l.length ≤ 800))) := Lib.hid rfl
  have HS := Lib.hid hs
  clear hs
  go_in
  go_wp2
  go_loopw [7] (fun i wr => ∃ k : Nat, k ≤ l.length ∧ i = .int .i64 k ∧ Hid (∀ j, j < k → okRow l j = true) ∧ Below w.heap.size w wr) (fun i _ => l.length - (intOf i).toNat)
  case atStart => exact ⟨0, Nat.zero_le _, rfl, Lib.hid (fun j hj => absurd hj (by omega)), Below.refl _ _⟩
  case round =>
    obtain ⟨k, hk, rfl, HK, hb⟩ := hrel
    by_cases hlt : k < l.length
    · have hr := h.below hb (Nat.le_refl _)
      obtain ⟨b1, o1, y, rfl, hbb, hy, hcy⟩ := hr.at_str hlt
      obtain ⟨b2, o2, x, e, _, hx, hcx0⟩ := hr.at_str (k := 0) (by omega)
      injection e with e
      injection e with e1 e2
      subst e1 e2
      simp only [Nat.add_zero] at hcx0
      have hys := HS.out y (List.mem_of_getElem? hy)
      have hxs := HS.out x (List.mem_of_getElem? hx)
      have E := Lib.hid (okRow_at hx hy)
      have hl0 : 0 < l.length := by omega
      clear hx hy h hr
      rcases hg : goodRow y
      · have e0 := Lib.hid (show okRow l k = false by rw [E.out, hg]; rfl)
        go_wp2_with (first | (go_at_call 178; refine (spec_l1Row hys).mono ?_; rintro e w1 ⟨rfl, hb1⟩))
        go_ret
        refine ⟨ret_bool ?_, below_go hb hb1⟩
        rw [HG.out, all_bad hlt e0.out]
      · rcases hq : (y.size == x.size)
        · have e0 := Lib.hid (show okRow l k = false by rw [E.out, hg, hq]; rfl)
          have hq1 : ((y.size : Int) != (x.size : Int)) = true := by
            have := beq_eq_false_iff_ne.1 hq
            exact bne_iff_ne.2 (by omega)
          clear hq
          go_wp2_with (first | (go_at_call 178; refine (spec_l1Row hys).mono ?_; rintro e w1 ⟨rfl, hb1⟩; have hcx := (hb1.cell (p := ⟨b1, o1, none⟩) hbb).trans hcx0))
          go_ret
          refine ⟨ret_bool ?_, below_go hb hb1⟩
          rw [HG.out, all_bad hlt e0.out]
        · have e0 := Lib.hid (show okRow l k = true by rw [E.out, hg, hq]; rfl)
          have hq1 : ((y.size : Int) != (x.size : Int)) = false := by
            have := beq_iff_eq.1 hq
            rw [bne_eq_false_iff_eq]; omega
          clear hq
          go_wp2_with (first | (go_at_call 178; refine (spec_l1Row hys).mono ?_; rintro e w1 ⟨rfl, hb1⟩; have hcx := (hb1.cell (p := ⟨b1, o1, none⟩) hbb).trans hcx0))
          go_roundw
          case rel => exact ⟨k + 1, by omega, by go_num, Lib.hid (upto_succ HK.out e0.out), below_go hb hb1⟩
          case measure => simp [intOf]; omega
    · obtain rfl : k = l.length := by omega
      go_wp2
      go_ret
      refine ⟨ret_bool ?_, hb⟩
      rw [HG.out, all_good (fun j hj => HK.out j hj)]
      exact decide_eq_decide.2 (by omega)
set_option maxRecDepth 100000 in
theorem impl_signs {A : Option Addr} {N c : Nat} {l : List ByteArray} {w : World} (hN : l.length = N) (h : Strs w A l) (hz : N ≤ 16777216) (hs : ∀ s ∈ l, s.size ≤ 16777216) :
    Calls Try.prog 77 #[.slice A N c] w fun e w' => ∃ A' c', e = .returned (.slice A' (l.map evenRow).length c') ∧
      Owned boolE 1 4 w' w.heap.size A' (l.map evenRow).length c' (l.map evenRow) ∧ Below w.heap.size w w' := by
  subst hN
  have HS := Lib.hid hs
  clear hs
  go_in
  go_wp2
  go_loopw [3, 9] (fun v i wr => ∃ (k : Nat) (A' : Option Addr) (m c' : Nat), k ≤ l.length ∧ i = .int .i64 k ∧ v = .slice A' m c' ∧ m = k ∧ Owned boolE 1 4 wr w.heap.size A' m c' ((l.map evenRow).take k) ∧ Below w.heap.size w wr) (fun _ i _ => l.length - (intOf i).toNat)
  case atStart => exact ⟨0, _, _, _, Nat.zero_le _, rfl, rfl, rfl, Owned.empty boolE_len _ _ (by simp), by (repeat' (first | (with_reducible exact Below.refl _ _) | (with_reducible assumption) | (with_reducible refine below_drewN ?_ _) | (with_reducible refine Below.drew ?_) | (with_reducible refine below_alloc ?_ _) | (with_reducible refine Below.alloc ?_ ?_ _) | (with_reducible refine Below.setCell ?_ ?_ _) | (with_reducible refine below_go ?_ (by with_reducible assumption)) | (with_reducible refine below_then (by with_reducible assumption) ?_ ?_) | go_size))⟩
  case round =>
    obtain ⟨k, A', m, c', hk, rfl, rfl, rfl, ho, hbl⟩ := hrel
    have HO := Lib.hid ho
    have hsz := hbl.size
    clear ho
    by_cases hlt : m < l.length
    · obtain ⟨b1, o1, y, rfl, hbb, hy, hcy⟩ := (h.below hbl (Nat.le_refl _)).at_str hlt
      have hys := HS.out y (List.mem_of_getElem? hy)
      have HT := Lib.hid (map_take_succ evenRow hy)
      clear hy h
      go_wp2_with (first | (go_at_call 74; refine (impl_even hys).mono ?_; rintro e w1 ⟨rfl, hb1⟩; have HO1 := Lib.hid (HO.out.up hb1); have hsz1 := hb1.size) | (at_builtin; go_must ((refine wpList_append_rec Try.elBool rfl (.tmp 13) (.tmp 16) rfl rfl (HO1.out.alloc _) (evenRow y) rfl (Box.at_ _ [.bool (evenRow y)] _ ?_) (boolE_one _) ?_ (by decide) ?_ ?_; (focus (first | omega | (simp only [World.size_alloc]; done) | (simp only [World.size_alloc]; omega) | (simp; done) | (simp; omega))); (focus (first | omega | (simp only [World.size_alloc]; done) | (simp only [World.size_alloc]; omega) | (simp; done) | (simp; omega))); (focus (first | omega | (simp only [World.size_alloc]; done) | (simp only [World.size_alloc]; omega) | (simp; done) | (simp; omega))); intro A2 c2 w2 ho2 hg2 hb2))))
      go_roundw
      case rel =>
        exact ⟨m + 1, A2, m + 1, c2, by omega, by go_num, by go_num, rfl, by rw [HT.out]; exact ho2, ((hbl.trans (hb1.mono hsz)).alloc (by omega) _).trans hb2⟩
      case measure => simp [intOf]; omega
    · obtain rfl : m = l.length := by omega
      have e1 := Lib.hid (show (l.map evenRow).take l.length = l.map evenRow by rw [List.take_of_length_le (by simp)])
      have hl : (l.map evenRow).length = l.length := by simp
      go_wp2
      go_ret
      rw [hl]
      refine ⟨_, _, rfl, ?_, hbl⟩
      have := HO.out
      rw [e1.out] at this
      exact this
theorem impl_SignsOf {A : Option Addr} {N c : Nat} {l : List ByteArray} {w : World} (hN : l.length = N) (h : Strs w A l) (hz : N ≤ 16777216) (hs : ∀ s ∈ l, s.size ≤ 16777216) :
    Calls Try.prog 28 #[.slice A N c] w fun e w' => ∃ A' c', e = .returned (.tuple #[.slice A' (signsR l).length c', .bool (goodRows l)]) ∧
      Owned boolE 1 4 w' w.heap.size A' (signsR l).length c' (signsR l) ∧ (signsR l).length ≤ 16777216 ∧ Below w.heap.size w w' := by
  rcases h1 : goodRows l
  · have e0 := Lib.hid (signsR_f h1)
    go_in
    go_wp2_with (first | (go_at_call 89; refine (impl_GoodRows hN h hz hs).mono ?_; rintro e w1 ⟨rfl, rfl⟩))
    go_ret2
    rw [e0.out]
    exact ⟨none, 0, rfl, Owned.nil boolE_len _ _ _, by decide, Below.refl _ _⟩
  · have e0 := Lib.hid (signsR_t h1)
    go_in
    go_wp2_with (first | (go_at_call 89; refine (impl_GoodRows hN h hz hs).mono ?_; rintro e w1 ⟨rfl, rfl⟩) | (go_at_call 77; refine (impl_signs hN h hz hs).mono ?_; rintro e w1 ⟨A1, c1, rfl, ho1, hb1⟩))
    go_ret2
    rw [e0.out]
    exact ⟨A1, c1, by rw [List.length_map, hN]; rfl, ho1, by rw [List.length_map]; omega, hb1⟩
set_option maxRecDepth 100000 in
theorem spec_SignsOf {A : Option Addr} {N c : Nat} {l : List ByteArray} {w : World} (hN : l.length = N) (h : Strs w A l) (hz : N ≤ 16777216) (hs : ∀ s ∈ l, s.size ≤ 16777216) :
    Calls Try.prog 29 #[.slice A N c] w fun e w' => ∃ A' c', e = .returned (.tuple #[.slice A' (signsR l).length c', .bool (goodRows l)]) ∧
      Owned boolE 1 4 w' w.heap.size A' (signsR l).length c' (signsR l) ∧ (signsR l).length ≤ 16777216 ∧ Below w.heap.size w w' := by
  rcases h1 : goodRows l
  · have e0 := Lib.hid (signsR_f h1)
    go_in
    go_wp2_with (first | (go_at_call 95; refine (spec_l6Rows hN h hz hs).mono ?_; rintro e w1 ⟨rfl, hb1⟩))
    go_ret2
    rw [e0.out]
    exact ⟨none, 0, rfl, Owned.nil boolE_len _ _ _, by decide, hb1⟩
  have e0 := Lib.hid (signsR_t h1)
  subst hN
  have HS := Lib.hid hs
  go_in
  go_wp2_with (first | (go_at_call 95; refine (spec_l6Rows rfl h hz hs).mono ?_; rintro e w1 ⟨rfl, hb1⟩; clear hs))
  go_loopw [4, 12] (fun v i wr => ∃ (k : Nat) (A' : Option Addr) (m c' : Nat), k ≤ l.length ∧ i = .int .i64 k ∧ v = .slice A' m c' ∧ m = k ∧ Owned boolE 1 4 wr w.heap.size A' m c' ((l.map evenRow).take k) ∧ Below w.heap.size w wr) (fun _ i _ => l.length - (intOf i).toNat)
  case atStart => exact ⟨0, none, 0, 0, Nat.zero_le _, rfl, rfl, rfl, Owned.nil boolE_len _ _ _, hb1⟩
  case round =>
    obtain ⟨k, A', m, c', hk, rfl, rfl, rfl, ho, hbl⟩ := hrel
    have HO := Lib.hid ho
    have hsz := hbl.size
    clear ho
    by_cases hlt : m < l.length
    · obtain ⟨b1, o1, y, rfl, hbb, hy, hcy⟩ := (h.below hbl (Nat.le_refl _)).at_str hlt
      have hys := HS.out y (List.mem_of_getElem? hy)
      have HT := Lib.hid (map_take_succ evenRow hy)
      clear hy h
      go_wp2_with (first | (go_at_call 96; refine (spec_l1Even hys).mono ?_; rintro e w1 ⟨rfl, hb1⟩; have HO1 := Lib.hid (HO.out.up hb1); have hsz1 := hb1.size) | (at_builtin; go_must ((refine wpList_append_rec Try.elBool rfl (.tmp 16) (.tmp 19) rfl rfl (HO1.out.alloc _) (evenRow y) rfl (Box.at_ _ [.bool (evenRow y)] _ ?_) (boolE_one _) ?_ (by decide) ?_ ?_; (focus (first | omega | (simp only [World.size_alloc]; done) | (simp only [World.size_alloc]; omega) | (simp; done) | (simp; omega))); (focus (first | omega | (simp only [World.size_alloc]; done) | (simp only [World.size_alloc]; omega) | (simp; done) | (simp; omega))); (focus (first | omega | (simp only [World.size_alloc]; done) | (simp only [World.size_alloc]; omega) | (simp; done) | (simp; omega))); intro A2 c2 w2 ho2 hg2 hb2))))
      go_roundw
      case rel =>
        exact ⟨m + 1, A2, m + 1, c2, by omega, by go_num, by go_num, rfl, by rw [HT.out]; exact ho2, ((hbl.trans (hb1.mono hsz)).alloc (by omega) _).trans hb2⟩
      case measure => simp [intOf]; omega
    · obtain rfl : m = l.length := by omega
      have e1 := Lib.hid (show (l.map evenRow).take l.length = signsR l by rw [e0.out, List.take_of_length_le (by simp)])
      have hl : (signsR l).length = l.length := by rw [e0.out]; simp
      go_wp2
      go_ret2
      rw [hl]
      refine ⟨_, _, rfl, ?_, by omega, hbl⟩
      have := HO.out
      rw [e1.out] at this
      exact this
end Go.Proofs.Ytpccbmndgdiloaa
/- The walks through lists of changes between rows, truth by sorting, factorials, and extents. -/
namespace Go.Proofs.Ytpccbmndgdiloaa
set_option linter.unusedVariables false
set_option linter.unusedSimpArgs false
open Go.ChangeShapes Go.WideShapes Go.ChangeAt Go.RowKit Go.Deep
theorem fact_le : ∀ k, k < 9 → fact k ≤ 40320 := of_decide_eq_true (by kernel_rfl)
theorem fact_one {n : Nat} (h : n ≤ 1) : fact n = 1 := by
  rcases n with _ | _ | n
  · rfl
  · rfl
  · omega
theorem impl_factorial {n : Nat} {w : World} (hn : n ≤ 8) :
    Calls Try.prog 115 #[.int .i64 n] w fun e w' => e = .returned (.int .i64 (fact n)) ∧ w = w' := by
  have HF : Hid (∀ k, fact (k + 1) = (k + 1) * fact k) := Lib.hid (fun _ => rfl)
  go_in
  go_wp2
  go_loopw [3, 4] (fun v i wr => ∃ (k q : Nat), 1 ≤ k ∧ (k ≤ n ∨ k = 1) ∧ i = .int .i64 (k + 1 : Nat) ∧ v = .int .i64 q ∧ q ≤ 40320 ∧ Hid (q = fact k) ∧ w = wr) (fun _ i _ => n + 2 - (intOf i).toNat)
  case atStart => exact ⟨1, 1, Nat.le_refl _, .inr rfl, rfl, rfl, by omega, Lib.hid rfl, rfl⟩
  case round =>
    obtain ⟨k, q, hk1, hk, rfl, rfl, hq, HQ, rfl⟩ := hrel
    by_cases hlt : k + 1 ≤ n
    · have hI : (k : Int) + 1 ≤ (n : Int) := by omega
      have h2 := Lib.hid (show q * (k + 1) = fact (k + 1) by rw [HF.out, HQ.out, Nat.mul_comm])
      have h3 : q * (k + 1) ≤ 40320 := by rw [h2.out]; exact fact_le _ (by omega)
      have h4 : ((q : Int) * ((k : Int) + 1)) = ((q * (k + 1) : Nat) : Int) := by rw [Int.natCast_mul]; rfl
      have h5 : 0 ≤ (q : Int) * ((k : Int) + 1) ∧ (q : Int) * ((k : Int) + 1) ≤ 40320 := by rw [h4]; omega
      have H4 := Lib.hid h4
      obtain ⟨h6, h7⟩ := h5
      clear h4
      go_wp2
      go_roundw
      case rel => exact ⟨k + 1, q * (k + 1), by omega, by omega, by go_num, by rw [H4.out], h3, Lib.hid h2.out, trivial⟩
      case measure => simp [intOf]; omega
    · have hI : ¬ (k : Int) + 1 ≤ (n : Int) := by omega
      have e1 := Lib.hid (show q = fact n by
        rw [HQ.out]
        rcases hk with hk | hk
        · rw [show k = n by omega]
        · rw [hk, fact_one (by omega : n ≤ 1)]; rfl)
      go_wp2
      go_ret
      rw [← e1.out]
      exact ⟨rfl, rfl⟩
theorem spec_l1Fact {n : Nat} {w : World} (hn : n ≤ 8) :
    Calls Try.prog 123 #[.int .i64 n] w fun e w' => e = .returned (.int .i64 (fact n)) ∧ w = w' := by
  have HF : Hid (∀ k, fact (k + 1) = (k + 1) * fact k) := Lib.hid (fun _ => rfl)
  have hfn := fact_le n (by omega)
  go_in
  go_wp2
  go_loopw [0, 3] (fun i v wr => ∃ (k q : Nat), k ≤ n ∧ i = .int .i64 k ∧ v = .int .i64 q ∧ q ≤ 40320 ∧ Hid (q * fact k = fact n) ∧ w = wr) (fun i _ _ => (intOf i).toNat)
  case atStart => exact ⟨n, 1, Nat.le_refl _, rfl, rfl, by omega, Lib.hid (Nat.one_mul _), rfl⟩
  case round =>
    obtain ⟨k, q, hk, rfl, rfl, hq, HQ, rfl⟩ := hrel
    by_cases hlt : 1 < k
    · obtain ⟨m, rfl⟩ : ∃ m, k = m + 1 := ⟨k - 1, by omega⟩
      have hI : (1 : Int) < (m : Int) + 1 := by omega
      have h2 := Lib.hid (show q * (m + 1) * fact m = fact n by rw [Nat.mul_assoc, ← HF.out, HQ.out])
      have h3 : q * (m + 1) ≤ 40320 := Nat.le_trans (Nat.le_mul_of_pos_right _ (fact_pos m)) (by rw [h2.out]; exact hfn)
      have h4 : ((q : Int) * ((m : Int) + 1)) = ((q * (m + 1) : Nat) : Int) := by rw [Int.natCast_mul]; rfl
      have h5 : 0 ≤ (q : Int) * ((m : Int) + 1) ∧ (q : Int) * ((m : Int) + 1) ≤ 40320 := by rw [h4]; omega
      have H4 := Lib.hid h4
      obtain ⟨h6, h7⟩ := h5
      clear h4
      go_wp2
      go_roundw
      case rel => exact ⟨m, q * (m + 1), by omega, by first | go_num | rfl, by rw [H4.out], h3, Lib.hid h2.out, trivial⟩
      case measure => simp [intOf]
    · have hI : ¬ (1 : Int) < (k : Int) := by omega
      have e1 := Lib.hid (show q = fact n by rw [← HQ.out, fact_one (by omega : k ≤ 1), Nat.mul_one])
      go_wp2
      go_ret
      rw [← e1.out]
      exact ⟨rfl, rfl⟩
set_option maxRecDepth 100000 in
theorem spec_l7True {A : Option Addr} {N c : Nat} {l : List ByteArray} {w : World} (hN : l.length = N) (h : Strs w A l) (hz : N ≤ 16000000) (hs : ∀ s ∈ l, s.size ≤ 16777216) :
    Calls Try.prog 124 #[.slice A N c] w fun e w' => e = .returned (.bool (nodupB l)) ∧ Below w.heap.size w w' := by
  go_in
  go_wp2_with fail
  refine (spec_l6Sort N A c l w hN h hz hs).mono ?_; rintro e w1 ⟨A1, c1, L, rfl, ho, hp, hS, hb1⟩
  have HE := Lib.hid (show nodupB l = true ↔ ∀ k, 1 ≤ k → k < L.length → nextEq L k = false by
    rw [nodupB, decide_eq_true_iff, ← hp.nodup_iff]; exact srt_nodup hS)
  have hL := ho.len
  subst hL
  clear hp hS hN h hs
  go_wp2
  go_loopw [4] (fun i wr => ∃ k : Nat, 1 ≤ k ∧ (k ≤ L.length ∨ k = 1) ∧ i = .int .i64 k ∧ Hid (∀ j, 1 ≤ j → j < k → nextEq L j = false) ∧ Below w1.heap.size w1 wr) (fun i _ => L.length - (intOf i).toNat)
  case atStart => exact ⟨1, Nat.le_refl _, .inr rfl, rfl, Lib.hid (fun j h1 h2 => absurd h1 (by omega)), Below.refl _ _⟩
  case round =>
    obtain ⟨k, hk0, hk, rfl, HK, hb⟩ := hrel
    by_cases hlt : k < L.length
    · obtain ⟨q, rfl⟩ : ∃ q, k = q + 1 := ⟨k - 1, by omega⟩
      obtain ⟨b3, o3, y, rfl, _, hy, hcy⟩ := (ho.up hb).recs.at_str hlt
      obtain ⟨b4, o4, x, e, _, hx, hcx⟩ := (ho.up hb).recs.at_str (k := q) (by omega)
      injection e with e
      injection e with e1 e2
      subst e1 e2
      have HX := Lib.hid (nextEq_at (k := q + 1) hx hy)
      have hw1 := wrap_id (x := (q : Int) + 1 - 1) (by omega)
      have hw2 : (q : Int) + 1 - 1 = (q : Int) := by omega
      have hw3 := wrap_id (x := (q : Int)) (by omega)
      clear hx hy ho
      by_cases hxy : y = x
      · have e1 := Lib.hid (show nodupB l = false by
          rcases hq : nodupB l
          · rfl
          · have := HE.out.1 hq (q + 1) (by omega) hlt
            rw [HX.out, decide_eq_true hxy] at this; cases this)
        have e2 : (y.toList == x.toList) = true := by rw [hxy]; simp
        clear hxy
        go_wp2
        go_quiet (fail)
        clear hw1 hw2 hw3
        go_wp2
        go_ret
        rw [e1.out]
        exact ⟨rfl, by (repeat' (first | (with_reducible exact Below.refl _ _) | (with_reducible assumption) | (with_reducible refine below_drewN ?_ _) | (with_reducible refine Below.drew ?_) | (with_reducible refine below_alloc ?_ _) | (with_reducible refine Below.alloc ?_ ?_ _) | (with_reducible refine Below.setCell ?_ ?_ _) | (with_reducible refine below_go ?_ (by with_reducible assumption)) | (with_reducible refine below_then (by with_reducible assumption) ?_ ?_) | go_size))⟩
      · have e2 : (y.toList == x.toList) = false := by
          rw [beq_eq_false_iff_ne]; exact fun q => hxy (toList_inj q)
        have HN := Lib.hid (show nextEq L (q + 1) = false by rw [HX.out, decide_eq_false hxy])
        clear hxy
        go_wp2
        go_quiet (fail)
        clear hw1 hw2 hw3
        go_wp2
        go_roundw
        case rel => exact ⟨q + 2, by omega, by omega, by go_num, Lib.hid (fun j h1 h2 => by
          rcases Nat.lt_succ_iff_lt_or_eq.1 h2 with h | rfl
          · exact HK.out j h1 h
          · exact HN.out), by (repeat' (first | (with_reducible exact Below.refl _ _) | (with_reducible assumption) | (with_reducible refine below_drewN ?_ _) | (with_reducible refine Below.drew ?_) | (with_reducible refine below_alloc ?_ _) | (with_reducible refine Below.alloc ?_ ?_ _) | (with_reducible refine Below.setCell ?_ ?_ _) | (with_reducible refine below_go ?_ (by with_reducible assumption)) | (with_reducible refine below_then (by with_reducible assumption) ?_ ?_) | go_size))⟩
        case measure => simp [intOf]; omega
    · have e1 := Lib.hid (show nodupB l = true from HE.out.2 (fun j h1 h2 => HK.out j h1 (by omega)))
      go_wp2
      go_ret
      rw [e1.out]
      exact ⟨rfl, below_go hb1 hb⟩
/-- Row k of a list of rows, cyclically. -/
def cyc (l : List ByteArray) (k : Nat) : ByteArray := l.getD (k % l.length) ByteArray.empty
def nextAt (l : List ByteArray) (k : Nat) : Bool := btwB (cyc l k) (cyc l (k + 1))
def nextsB (l : List ByteArray) : Bool := (List.range l.length).all (nextAt l)
theorem cyc_at {l : List ByteArray} {k : Nat} {x : ByteArray} (h : l[k]? = some x) : cyc l k = x := by
  have := (List.getElem?_eq_some_iff.1 h).1
  rw [cyc, Nat.mod_eq_of_lt this, List.getD, h]; rfl
theorem cyc_last {l : List ByteArray} {x : ByteArray} (h : l[0]? = some x) : cyc l l.length = x := by
  rw [cyc, Nat.mod_self, List.getD, h]; rfl
theorem btw_self (a : ByteArray) : ∀ (k i : Nat) (sw : Bool), btwK a a k i sw = sw
  | 0, _, _ => by rw [btwK]
  | k + 1, i, sw => by rw [btw_eq rfl, btw_self a k]
theorem nexts_one {l : List ByteArray} (h : l.length = 1) : nextsB l = false := by
  match l, h with
  | [x], _ =>
    show (List.all [0] (nextAt [x])) = false
    simp [nextAt, cyc, btwB, btw_self]
theorem goodRows_size {l : List ByteArray} (h : goodRows l = true) {i j : Nat} {x y : ByteArray} (hx : l[i]? = some x) (hy : l[j]? = some y) : x.size = y.size := by
  rw [goodRows, Bool.and_eq_true, List.all_eq_true] at h
  have key : ∀ (k : Nat) (z : ByteArray), l[k]? = some z → z.size = (l.getD 0 ByteArray.empty).size := fun k z hz => by
    have := h.1 k (List.mem_range.2 (List.getElem?_eq_some_iff.1 hz).1)
    rw [okRow, Bool.and_eq_true, List.getD, hz] at this
    simpa using this.2
  rw [key i x hx, key j y hy]
set_option maxHeartbeats 1000000 in
set_option maxRecDepth 100000 in
theorem impl_changesIn {A : Option Addr} {N c : Nat} {l : List ByteArray} {w : World} (hN : l.length = N) (h : Strs w A l) (hz : 0 < N) (hg : goodRows l = true) :
    Calls Try.prog 113 #[.slice A N c] w fun e w' => ∃ A' m c', e = .returned (.tuple #[.slice A' m c', .bool (nextsB l)]) ∧ Below w.heap.size w w' := by
  subst hN
  have h8 := goodRows_len hg
  have HG := Lib.hid (goodRows_mem hg)
  have HZ := Lib.hid (fun (i j : Nat) (x y : ByteArray) (hx : l[i]? = some x) (hy : l[j]? = some y) => goodRows_size hg hx hy)
  have HQ : Hid (nextsB l = (List.range l.length).all (nextAt l)) := Lib.hid rfl
  clear hg
  by_cases h1 : l.length < 2
  · have e1 := Lib.hid (nexts_one (l := l) (by omega))
    go_in
    go_wp2
    go_ret2
    rw [e1.out]
    exact ⟨_, _, _, rfl, Below.refl _ _⟩
  · go_in
    go_wp2
    go_loopw [4, 15] (fun v i wr => ∃ (k : Nat) (A' : Option Addr) (c' : Nat) (M : List ByteArray), k ≤ l.length ∧ i = .int .i64 k ∧ v = .slice A' k c' ∧ Hid (∀ j, j < k → nextAt l j = true) ∧ Hid (Owned strE 1 9 wr w.heap.size A' k c' M) ∧ Below w.heap.size w wr) (fun _ i _ => l.length - (intOf i).toNat)
    case atStart => exact ⟨0, _, _, [], Nat.zero_le _, rfl, rfl, Lib.hid (fun j hj => absurd hj (by omega)), Lib.hid (Owned.empty strE_len _ _ (Nat.le_refl _)), by (repeat' (first | (with_reducible exact Below.refl _ _) | (with_reducible assumption) | (with_reducible refine below_drewN ?_ _) | (with_reducible refine Below.drew ?_) | (with_reducible refine below_alloc ?_ _) | (with_reducible refine Below.alloc ?_ ?_ _) | (with_reducible refine Below.setCell ?_ ?_ _) | (with_reducible refine below_go ?_ (by with_reducible assumption)) | (with_reducible refine below_then (by with_reducible assumption) ?_ ?_) | go_size))⟩
    case round =>
      obtain ⟨k, A', c', M, hk, rfl, rfl, HK, HO, hb⟩ := hrel
      have hsz := hb.size
      by_cases hlt : k < l.length
      · obtain ⟨b3, o3, x, rfl, hbb, hx, hcx⟩ := (h.below hb (Nat.le_refl _)).at_str hlt
        have hxg := HG.out x (List.mem_of_getElem? hx)
        have hxn := goodRow_n hxg
        obtain ⟨q, hq1, hq2⟩ : ∃ q, q < l.length ∧ (((k : Int) + 1) % (l.length : Int) = (q : Int) ∧ cyc l (k + 1) = l.getD q ByteArray.empty) := by
          refine ⟨(k + 1) % l.length, Nat.mod_lt _ (by omega), ?_, rfl⟩
          rw [Int.natCast_emod]; rfl
        obtain ⟨b4, o4, y, e, _, hy, hcy⟩ := (h.below hb (Nat.le_refl _)).at_str hq1
        injection e with e
        injection e with e1 e2
        subst e1 e2
        have hyg := HG.out y (List.mem_of_getElem? hy)
        have hsy := HZ.out k q x y hx hy
        have E := Lib.hid (show nextAt l k = btwB x y by rw [nextAt, cyc_at hx, hq2.2, List.getD, hy]; rfl)
        have hm := hq2.1
        have hm2 : ((k : Int) + 1).tmod (l.length : Int) = (q : Int) := by rw [Int.tmod_eq_emod_of_nonneg (by omega)]; exact hm
        have HC := Lib.hid (fun (u : World) => impl_between (a := x) (b := y) (n := x.size) (w := u) rfl hsy.symm hxn.2)
        clear hx hy h hq2 hsy
        go_wp2_with fail
        refine (HC.out _).mono ?_; rintro e w3 ⟨s, rfl, hs, hb3⟩
        clear hm hm2
        rcases hbt : btwB x y
        · have e1 := Lib.hid (show nextsB l = false by rw [HQ.out]; exact all_no hlt (by rw [E.out, hbt]))
          go_wp2
          go_ret2
          rw [e1.out]
          exact ⟨_, _, _, rfl, below_go hb hb3⟩
        · have e1 := Lib.hid (show nextAt l k = true by rw [E.out, hbt])
          have HO3 := Lib.hid (HO.out.up hb3)
          have hsz3 := hb3.size
          have hbt3 := below_go hb hb3
          go_wp2_with (first | (at_builtin; go_must ((refine wpList_append_rec Try.elStr rfl (.tmp 35) (.tmp 37) rfl rfl (HO3.out.alloc _) s rfl (Box.at_ _ [.string s] _ ?_) (strE_one _) ?_ (by decide) ?_ ?_; (focus (first | omega | (simp only [World.size_alloc]; done) | (simp only [World.size_alloc]; omega) | (simp; done) | (simp; omega))); (focus (first | omega | (simp only [World.size_alloc]; done) | (simp only [World.size_alloc]; omega) | (simp; done) | (simp; omega))); (focus (first | omega | (simp only [World.size_alloc]; done) | (simp only [World.size_alloc]; omega) | (simp; done) | (simp; omega))); intro A4 c4 w4 ho4 hg4 hb4))))
          go_roundw
          case rel => exact ⟨k + 1, A4, c4, _, by omega, by go_num, by go_num, Lib.hid (upto_succ HK.out e1.out), Lib.hid ho4, (hbt3.alloc (by omega) _).trans hb4⟩
          case measure => simp [intOf]; omega
      · obtain rfl : k = l.length := by omega
        have e1 := Lib.hid (show nextsB l = true by rw [HQ.out]; exact all_yes (fun j hj => HK.out j hj))
        go_wp2
        go_ret2
        rw [e1.out]
        exact ⟨_, _, _, rfl, hb⟩
set_option maxHeartbeats 1000000 in
set_option maxRecDepth 100000 in
theorem spec_l7Changes {A : Option Addr} {N c : Nat} {l : List ByteArray} {w : World} (hN : l.length = N) (h : Strs w A l) (hz : 0 < N) (hg : goodRows l = true) :
    Calls Try.prog 122 #[.slice A N c] w fun e w' => ∃ A' m c', e = .returned (.tuple #[.slice A' m c', .bool (nextsB l)]) ∧ Below w.heap.size w w' := by
  subst hN
  have h8 := goodRows_len hg
  have HG := Lib.hid (goodRows_mem hg)
  have HZ := Lib.hid (fun (i j : Nat) (x y : ByteArray) (hx : l[i]? = some x) (hy : l[j]? = some y) => goodRows_size hg hx hy)
  have HQ : Hid (nextsB l = (List.range l.length).all (nextAt l)) := Lib.hid rfl
  clear hg
  go_in
  go_wp2
  go_loopw [4, 11] (fun v i wr => ∃ (k : Nat) (A' : Option Addr) (c' : Nat) (M : List ByteArray), k ≤ l.length ∧ i = .int .i64 k ∧ v = .slice A' k c' ∧ Hid (∀ j, j < k → nextAt l j = true) ∧ Hid (Owned strE 1 9 wr w.heap.size A' k c' M) ∧ Below w.heap.size w wr) (fun _ i _ => l.length - (intOf i).toNat)
  case atStart => exact ⟨0, _, _, [], Nat.zero_le _, rfl, rfl, Lib.hid (fun j hj => absurd hj (by omega)), Lib.hid (Owned.nil strE_len _ _ _), Below.refl _ _⟩
  case round =>
    obtain ⟨k, A', c', M, hk, rfl, rfl, HK, HO, hb⟩ := hrel
    have hsz := hb.size
    by_cases hlt : k < l.length
    · obtain ⟨b3, o3, x, rfl, hbb, hx, hcx⟩ := (h.below hb (Nat.le_refl _)).at_str hlt
      have hxg := HG.out x (List.mem_of_getElem? hx)
      have hxn := goodRow_n hxg
      obtain ⟨q, hq1, hq2⟩ : ∃ q, q < l.length ∧ (((k : Int) + 1) % (l.length : Int) = (q : Int) ∧ cyc l (k + 1) = l.getD q ByteArray.empty) := by
        refine ⟨(k + 1) % l.length, Nat.mod_lt _ (by omega), ?_, rfl⟩
        rw [Int.natCast_emod]; rfl
      obtain ⟨b4, o4, y, e, _, hy, hcy⟩ := (h.below hb (Nat.le_refl _)).at_str hq1
      injection e with e
      injection e with e1 e2
      subst e1 e2
      have hyg := HG.out y (List.mem_of_getElem? hy)
      have hsy := HZ.out k q x y hx hy
      have E := Lib.hid (show nextAt l k = btwB x y by rw [nextAt, cyc_at hx, hq2.2, List.getD, hy]; rfl)
      have hm := hq2.1
      have hm2 : ((k : Int) + 1).tmod (l.length : Int) = (q : Int) := by rw [Int.tmod_eq_emod_of_nonneg (by omega)]; exact hm
      have HC := Lib.hid (fun (u : World) => spec_BetweenRows (a := x) (b := y) (w := u) hxg hyg hsy)
      clear hx hy h hq2 hsy
      go_wp2_with fail
      refine (HC.out _).mono ?_; rintro e w3 ⟨s, rfl, hs, hb3⟩
      clear hm hm2
      rcases hbt : btwB x y
      · have e1 := Lib.hid (show nextsB l = false by rw [HQ.out]; exact all_no hlt (by rw [E.out, hbt]))
        go_wp2
        go_ret2
        rw [e1.out]
        exact ⟨_, _, _, rfl, below_go hb hb3⟩
      · have e1 := Lib.hid (show nextAt l k = true by rw [E.out, hbt])
        have HO3 := Lib.hid (HO.out.up hb3)
        have hsz3 := hb3.size
        have hbt3 := below_go hb hb3
        go_wp2_with (first | (at_builtin; go_must ((refine wpList_append_rec Try.elStr rfl (.tmp 31) (.tmp 33) rfl rfl (HO3.out.alloc _) s rfl (Box.at_ _ [.string s] _ ?_) (strE_one _) ?_ (by decide) ?_ ?_; (focus (first | omega | (simp only [World.size_alloc]; done) | (simp only [World.size_alloc]; omega) | (simp; done) | (simp; omega))); (focus (first | omega | (simp only [World.size_alloc]; done) | (simp only [World.size_alloc]; omega) | (simp; done) | (simp; omega))); (focus (first | omega | (simp only [World.size_alloc]; done) | (simp only [World.size_alloc]; omega) | (simp; done) | (simp; omega))); intro A4 c4 w4 ho4 hg4 hb4))))
        go_roundw
        case rel => exact ⟨k + 1, A4, c4, _, by omega, by go_num, by go_num, Lib.hid (upto_succ HK.out e1.out), Lib.hid ho4, (hbt3.alloc (by omega) _).trans hb4⟩
        case measure => simp [intOf]; omega
    · obtain rfl : k = l.length := by omega
      have e1 := Lib.hid (show nextsB l = true by rw [HQ.out]; exact all_yes (fun j hj => HK.out j hj))
      have hI : (0 : Int) < (l.length : Int) := by omega
      go_wp2
      go_ret2
      rw [e1.out]
      exact ⟨A', l.length, c', by simp [hz], hb⟩
/-! extents -/
def smallR (l : List ByteArray) : Bool := goodRows l && (decide (0 < l.length) && decide ((l.getD 0 ByteArray.empty).size ≤ 6))
def extR (l : List ByteArray) : Bool := smallR l && (nextsB l && (nodupB l && (l.length == fact (l.getD 0 ByteArray.empty).size)))
theorem impl_countable {A : Option Addr} {N c : Nat} {l : List ByteArray} {w : World} (hN : l.length = N) (h : Strs w A l) (hz : N ≤ 16000000) (hs : ∀ s ∈ l, s.size ≤ 16777216) :
    Calls Try.prog 112 #[.slice A N c] w fun e w' => e = .returned (.bool (smallR l)) ∧ w = w' := by
  subst hN
  have E : Hid (smallR l = (goodRows l && (decide (0 < l.length) && decide ((l.getD 0 ByteArray.empty).size ≤ 6)))) := Lib.hid rfl
  rcases hg : goodRows l
  · have e1 := Lib.hid (show smallR l = false by rw [E.out, hg]; rfl)
    go_in
    go_wp2_with fail
    refine (impl_GoodRows rfl h (by omega) hs).mono ?_; rw [hg]; rintro e w' ⟨rfl, rfl⟩
    go_wp2
    go_ret
    rw [e1.out]
    exact ⟨rfl, rfl⟩
  · by_cases h0 : 0 < l.length
    · obtain ⟨b, o, x, rfl, _, hx, hc⟩ := h.at_str (k := 0) h0
      have e1 := Lib.hid (show smallR l = decide (x.size ≤ 6) by rw [E.out, hg, decide_eq_true h0, List.getD, hx]; rfl)
      simp only [Nat.add_zero] at hc
      clear hx
      go_in
      go_wp2_with fail
      refine (impl_GoodRows rfl h (by omega) hs).mono ?_; rw [hg]; rintro e w' ⟨rfl, rfl⟩
      go_wp2
      go_ret
      exact ⟨ret_bool (by rw [e1.out]; exact decide_eq_decide.2 (by omega)), rfl⟩
    · have e1 := Lib.hid (show smallR l = false by rw [E.out, hg, decide_eq_false h0]; rfl)
      have hI : ¬ (0 : Int) < (l.length : Int) := by omega
      go_in
      go_wp2_with fail
      refine (impl_GoodRows rfl h (by omega) hs).mono ?_; rw [hg]; rintro e w' ⟨rfl, rfl⟩
      go_wp2
      go_ret
      rw [e1.out]
      exact ⟨rfl, rfl⟩
theorem spec_l7Small {A : Option Addr} {N c : Nat} {l : List ByteArray} {w : World} (hN : l.length = N) (h : Strs w A l) (hz : N ≤ 16000000) (hs : ∀ s ∈ l, s.size ≤ 16777216) :
    Calls Try.prog 121 #[.slice A N c] w fun e w' => e = .returned (.bool (smallR l)) ∧ Below w.heap.size w w' := by
  subst hN
  have E : Hid (smallR l = (goodRows l && (decide (0 < l.length) && decide ((l.getD 0 ByteArray.empty).size ≤ 6)))) := Lib.hid rfl
  rcases hg : goodRows l
  · have e1 := Lib.hid (show smallR l = false by rw [E.out, hg]; rfl)
    go_in
    go_wp2_with fail
    refine (spec_l6Rows rfl h (by omega) hs).mono ?_; rw [hg]; rintro e w1 ⟨rfl, hb1⟩
    go_wp2
    go_ret
    rw [e1.out]
    exact ⟨rfl, hb1⟩
  · by_cases h0 : 0 < l.length
    · obtain ⟨b, o, x, rfl, hbb, hx, hc⟩ := h.at_str (k := 0) h0
      have e1 := Lib.hid (show smallR l = decide (x.size ≤ 6) by rw [E.out, hg, decide_eq_true h0, List.getD, hx]; rfl)
      simp only [Nat.add_zero] at hc
      clear hx
      go_in
      go_wp2_with fail
      refine (spec_l6Rows rfl h (by omega) hs).mono ?_; rw [hg]; rintro e w1 ⟨rfl, hb1⟩
      have hc1 := (hb1.cell (p := ⟨b, o, none⟩) hbb).trans hc
      go_wp2
      go_ret
      exact ⟨ret_bool (by rw [e1.out]; exact decide_eq_decide.2 (by omega)), hb1⟩
    · have e1 := Lib.hid (show smallR l = false by rw [E.out, hg, decide_eq_false h0]; rfl)
      have hI : ¬ (0 : Int) < (l.length : Int) := by omega
      go_in
      go_wp2_with fail
      refine (spec_l6Rows rfl h (by omega) hs).mono ?_; rw [hg]; rintro e w1 ⟨rfl, hb1⟩
      go_wp2
      go_ret
      rw [e1.out]
      exact ⟨rfl, hb1⟩
theorem small_t {l : List ByteArray} (h : smallR l = true) : goodRows l = true ∧ 0 < l.length ∧ ∀ x, l[0]? = some x → x.size ≤ 6 := by
  simp only [smallR, Bool.and_eq_true, decide_eq_true_eq] at h
  exact ⟨h.1, h.2.1, fun x hx => by have := h.2.2; rw [List.getD, hx] at this; exact this⟩
set_option maxHeartbeats 1000000 in
theorem impl_IsExtent {A : Option Addr} {N c : Nat} {l : List ByteArray} {w : World} (hN : l.length = N) (h : Strs w A l) (hz : N ≤ 16000000) (hs : ∀ s ∈ l, s.size ≤ 16777216) :
    Calls Try.prog 35 #[.slice A N c] w fun e w' => e = .returned (.tuple #[.bool (extR l), .bool (smallR l)]) ∧ Below w.heap.size w w' := by
  subst hN
  have E : Hid (extR l = (smallR l && (nextsB l && (nodupB l && (l.length == fact (l.getD 0 ByteArray.empty).size))))) := Lib.hid rfl
  rcases hS : smallR l
  · have e1 := Lib.hid (show extR l = false by rw [E.out, hS]; rfl)
    go_in
    go_wp2_with fail
    refine (impl_countable rfl h hz hs).mono ?_; rw [hS]; rintro e w' ⟨rfl, rfl⟩
    go_wp2
    go_ret2
    rw [e1.out]
    exact ⟨rfl, Below.refl _ _⟩
  · obtain ⟨hg, h0, h6⟩ := small_t hS
    obtain ⟨b, o, x, e0, hbb, hx, hc⟩ := h.at_str (k := 0) h0
    subst e0
    have hx6 := h6 x hx
    simp only [Nat.add_zero] at hc
    have e1 := Lib.hid (show extR l = (nextsB l && (nodupB l && (l.length == fact x.size))) by rw [E.out, hS, List.getD, hx]; rfl)
    have HG := Lib.hid hg
    have hsz := Lib.hid hs
    clear hg h6 hx hs
    go_in
    go_wp2_with fail
    refine (impl_countable rfl h hz hsz.out).mono ?_; rw [hS]; rintro e w' ⟨rfl, rfl⟩
    go_wp2_with fail
    refine (impl_changesIn rfl h h0 HG.out).mono ?_; rintro e w1 ⟨A1, m1, c1, rfl, hb1⟩
    have hc1 := (hb1.cell (p := ⟨b, o, none⟩) hbb).trans hc
    rcases hn : nextsB l
    · have e2 := Lib.hid (show extR l = false by rw [e1.out, hn]; rfl)
      go_wp2
      go_ret2
      rw [e2.out]
      exact ⟨rfl, hb1⟩
    · go_wp2_with fail
      refine (impl_isTrue rfl (h.up hb1) hz hsz.out).mono ?_; rintro e w2 ⟨rfl, hb2⟩
      have hc2 := (hb2.cell (p := ⟨b, o, none⟩) (by have := hb1.size; show b < w1.heap.size; omega)).trans hc1
      rcases hd : nodupB l
      · have e2 := Lib.hid (show extR l = false by rw [e1.out, hn, hd]; rfl)
        go_wp2
        go_ret2
        rw [e2.out]
        exact ⟨rfl, below_go hb1 hb2⟩
      · have e2 := Lib.hid (show extR l = (l.length == fact x.size) by rw [e1.out, hn, hd]; rfl)
        go_wp2_with fail
        refine (impl_factorial (by omega)).mono ?_; rintro e w' ⟨rfl, rfl⟩
        rcases hf : (l.length == fact x.size)
        · have hI : ((l.length : Int) == (fact x.size : Int)) = false := by
            rw [beq_eq_false_iff_ne] at hf ⊢; omega
          have e3 := Lib.hid (e2.out.trans hf)
          clear hf
          go_wp2
          go_ret2
          rw [e3.out]
          exact ⟨rfl, below_go hb1 hb2⟩
        · have hI : ((l.length : Int) == (fact x.size : Int)) = true := by
            rw [beq_iff_eq] at hf ⊢; omega
          have e3 := Lib.hid (e2.out.trans hf)
          clear hf
          go_wp2
          go_ret2
          rw [e3.out]
          exact ⟨rfl, below_go hb1 hb2⟩
set_option maxHeartbeats 1000000 in
theorem spec_IsExtent {A : Option Addr} {N c : Nat} {l : List ByteArray} {w : World} (hN : l.length = N) (h : Strs w A l) (hz : N ≤ 16000000) (hs : ∀ s ∈ l, s.size ≤ 16777216) :
    Calls Try.prog 39 #[.slice A N c] w fun e w' => e = .returned (.tuple #[.bool (extR l), .bool (smallR l)]) ∧ Below w.heap.size w w' := by
  subst hN
  have E : Hid (extR l = (smallR l && (nextsB l && (nodupB l && (l.length == fact (l.getD 0 ByteArray.empty).size))))) := Lib.hid rfl
  rcases hS : smallR l
  · have e1 := Lib.hid (show extR l = false by rw [E.out, hS]; rfl)
    go_in
    go_wp2_with fail
    refine (spec_l7Small rfl h hz hs).mono ?_; rw [hS]; rintro e w1 ⟨rfl, hb1⟩
    go_wp2
    go_ret2
    rw [e1.out]
    exact ⟨rfl, hb1⟩
  · obtain ⟨hg, h0, h6⟩ := small_t hS
    obtain ⟨b, o, x, e0, hbb, hx, hc⟩ := h.at_str (k := 0) h0
    subst e0
    have hx6 := h6 x hx
    simp only [Nat.add_zero] at hc
    have e1 := Lib.hid (show extR l = (nextsB l && (nodupB l && (l.length == fact x.size))) by rw [E.out, hS, List.getD, hx]; rfl)
    have HG := Lib.hid hg
    have hsz := Lib.hid hs
    clear hg h6 hx hs
    go_in
    go_wp2_with fail
    refine (spec_l7Small rfl h hz hsz.out).mono ?_; rw [hS]; rintro e w0 ⟨rfl, hb0⟩
    have hbb0 : b < w0.heap.size := by have := hb0.size; omega
    have hc0 := (hb0.cell (p := ⟨b, o, none⟩) hbb).trans hc
    go_wp2_with fail
    refine (spec_l7Changes rfl (h.up hb0) h0 HG.out).mono ?_; rintro e w1 ⟨A1, m1, c1, rfl, hb1⟩
    have hB1 := below_go hb0 hb1
    have hc1 := (hb1.cell (p := ⟨b, o, none⟩) hbb0).trans hc0
    go_wp2_with fail
    refine (spec_l1Fact (by omega)).mono ?_; rintro e w' ⟨rfl, rfl⟩
    rcases hf : (l.length == fact x.size)
    · have hI : ((l.length : Int) == (fact x.size : Int)) = false := by
        rw [beq_eq_false_iff_ne] at hf ⊢; omega
      have e3 := Lib.hid (show extR l = false by rw [e1.out, hf]; rcases nextsB l <;> rcases nodupB l <;> rfl)
      clear hf
      go_wp2
      go_ret2
      rw [e3.out]
      exact ⟨rfl, hB1⟩
    · have hI : ((l.length : Int) == (fact x.size : Int)) = true := by
        rw [beq_iff_eq] at hf ⊢; omega
      have e3 := Lib.hid (show extR l = (nextsB l && nodupB l) by rw [e1.out, hf, Bool.and_true])
      clear hf
      go_wp2_with fail
      refine (spec_l7True rfl (h.up hB1) hz hsz.out).mono ?_; rintro e w2 ⟨rfl, hb2⟩
      have hB2 := below_go hB1 hb2
      rcases hd : nodupB l <;> rcases hn : nextsB l
      all_goals
        have e4 := Lib.hid e3.out
        rw [hd, hn] at e4
        go_wp2
        go_ret2
        rw [e4.out]
        exact ⟨rfl, hB2⟩
end Go.Proofs.Ytpccbmndgdiloaa
/- The walks through closures: the group that some rows generate, both sides. -/
namespace Go.Proofs.Ytpccbmndgdiloaa
set_option linter.unusedVariables false
set_option linter.unusedSimpArgs false
open Go.ChangeShapes Go.WideShapes Go.ChangeAt Go.RowKit Go.Deep
open Go.Maps (Keyed string_keyed)
open Go.WideMaps (keyOf_string_mk)
theorem pre_at {α : Type} {l m : List α} {k : Nat} {x : α} (h : l <+: m) (hx : l[k]? = some x) : m[k]? = some x := by
  obtain ⟨t, rfl⟩ := h
  rw [List.getElem?_append_left (List.getElem?_eq_some_iff.1 hx).1]; exact hx
theorem pre_len {α : Type} {l m : List α} (h : l <+: m) : l.length ≤ m.length := h.length_le
theorem own_lit1_at' {α : Type} {e : α → List Value} {s : Nat} (he : ∀ x, (e x).length = s) (w : World) (E : TypeId) (x : α) {b base : Nat} (h : b = w.heap.size) (hb : base ≤ w.heap.size) : Owned e s E (w.alloc (.cells ⟨e x⟩ E)) base (some ⟨b, 0, none⟩) 1 1 [x] := by
  subst h
  exact ⟨he, rfl, by simpa using World.ownsRow_lit (e := E) (base := base) (size := s) w ⟨e x⟩ 1 hb (by unfold maxLen; omega) (by simp [he])⟩
theorem wpList_set_ins {P : Program} {ops : Array Oper} {rest : List Oper} {o : Oper} {a : Act} {Q : Exit → Act → World → Prop} {W : World} (hgd : o.guard = none) (M X V : Operand) (t : TypeId) (hop : o.op = Op.insert t M X V)
    {k e : TypeId} (K : Keyed P k) (ht : P.underlying t = some (.map k e)) (he : P.underlying e = some .bool) {b n : Nat} {S : List Value} (hm : a.eval M = .map (some b)) (h : SetOf P W k e b n S) (hn : n ≤ 16777216) {key : Value} (hx : a.eval X = key) (hv : a.eval V = .bool true)
    {kl : Lit} (hkey : keyOf P k key = some kl) (hK : ∀ w', SetOf P w' k e b (n + 1) (key :: S) → W.grownBy w' (some b) → wpList P ops Q rest (a.put o.dst undef) w') : wpList P ops Q (o :: rest) a W := by
  obtain ⟨D, h1, h2⟩ := h
  obtain ⟨w', hrun, hown, hg⟩ := h1.update K ht (by unfold maxLen; omega) hkey (plainElem_bool he true)
  refine wpList_plain hgd fun K' hK' => ?_
  unfold Oper.wp
  simp [execOp, hop, hm, hx, hv, hrun, Result.andThen]
  refine hK' _ _ (hK w' ⟨_, hown, fun key' kl' hk' => ?_⟩ hg)
  by_cases ek : kl' = kl
  · subst ek
    have e1 : key' = key := K.inj hk' hkey
    subst e1
    rw [Maps.atKey_put_same h1.isMap (K.key hkey)]
    exact ⟨fun _ => rfl, fun hne => absurd (List.mem_cons_self ..) hne⟩
  · have e1 : key' ≠ key := fun e2 => ek (by rw [e2, hkey] at hk'; injection hk' with hk'; exact hk'.symm)
    rw [Maps.atKey_put_other ek]
    obtain ⟨a1, a2⟩ := h2 key' kl' hk'
    refine ⟨fun hi => a1 ?_, fun hi => a2 (fun hc => hi (List.mem_cons_of_mem _ hc))⟩
    rcases List.mem_cons.1 hi with hi | hi
    · exact absurd hi e1
    · exact hi
/-- The keys of a set of texts. -/
def keysS (L : List ByteArray) : List Value := (L.map strV).reverse
theorem keysS_mem {s : ByteArray} {L : List ByteArray} : strV s ∈ keysS L ↔ s ∈ L := by rw [keysS, List.mem_reverse, strV_mem]
theorem keysS_snoc (L : List ByteArray) (s : ByteArray) : keysS (L ++ [s]) = strV s :: keysS L := by rw [keysS, keysS, List.map_append, List.reverse_append]; rfl
set_option maxHeartbeats 1000000 in
set_option maxRecDepth 100000 in
theorem impl_generated {A : Option Addr} {N c n most : Nat} {gs : List ByteArray} {w : World} (hN : gs.length = N) (h : Strs w A gs) (hz : N ≤ 16777216) (h3 : 3 ≤ n) (h8 : n ≤ 8) (hg : ∀ g ∈ gs, RowN n g) (hm : 1 ≤ most) (hm2 : most ≤ 1000000) :
    Calls Try.prog 172 #[.int .i64 n, .slice A N c, .int .i64 most] w fun e w' => ∃ A' m' c', e = .returned (.tuple #[.slice A' m' c', .bool (decide ((clF n gs).length ≤ most))]) ∧ ((clF n gs).length ≤ most → m' = (clF n gs).length ∧ ∃ L, Owned strE 1 9 w' w.heap.size A' m' c' L ∧ L.Perm (clF n gs) ∧ Srt L) ∧ (¬ (clF n gs).length ≤ most → A' = none ∧ m' = 0 ∧ c' = 0) ∧ Below w.heap.size w w' := by
  subst hN
  have hmm := @run_makeMap Try.prog
  have KS := string_keyed (P := Try.prog) (k := 9) Try.underlying9
  have HG := Lib.hid hg
  have hr := rowN_rounds h3 h8
  have h40 : fact n ≤ 40320 := fact_le8 h8
  have HOK := Lib.hid (fun k => clAt_ok hr hg k)
  have HPF := Lib.hid (fun k x (hx : (clAt gs (roundsS n) k)[k]? = some x) j (hj : j ≤ gs.length) => clPart_F h3 h8 hg hx hj)
  have HEND := Lib.hid (fun k (hk : (clAt gs (roundsS n) k).length = k) => clF_end h3 h8 hg hk)
  have HLE := Lib.hid (fun k => (clAt_ok hr hg k).le)
  have hkr := keyOf_string_mk (P := Try.prog) (k := 9) Try.underlying9 (s := roundsS n) (by rw [hr.2]; unfold maxLen; omega)
  have HKR := Lib.hid hkr
  clear hg hkr
  have HM0 := Lib.hid (SetOf.made Try.prog w 9 4)
  go_in
  go_wp2_with (first | (go_at_call 102; refine (impl_rounds h8).mono ?_; rintro e w' ⟨rfl, rfl⟩) | (refine wpList_set_ins rfl (.tmp 14) (.tmp 16) (.const (.bool true)) 116 rfl KS Try.underlying116 Try.underlying4 rfl HM0.out ?_ (key := strV (roundsS n)) rfl rfl HKR.out ?_; (focus (first | omega | (simp only [World.size_alloc]; done) | (simp only [World.size_alloc]; omega) | (simp; done) | (simp; omega))); intro w1 hm1 hg1; have hb1 : Below w.heap.size w w1 := (((Below.refl _ _).alloc (Nat.le_refl _) (.map #[] 0)).grown hg1 (by simp) (fun k hk => by injection hk with hk; omega)); have hw1 : w.heap.size + 1 ≤ w1.heap.size := (by have := hg1.size; simp at this; omega)))
  clear hmm HM0
  have HM1 := Lib.hid (show SetOf Try.prog (w1.alloc (.cells #[.string (roundsS n)] 9)) 9 4 w.heap.size 1 (keysS (clAt gs (roundsS n) 0)) from (hm1.alloc _))
  clear hm1 hg1
  go_loopw [9, 10] (fun v i wr => ∃ (k : Nat) (A' : Option Addr) (c' : Nat), k ≤ (clAt gs (roundsS n) k).length ∧ (clAt gs (roundsS n) k).length ≤ most ∧ i = .int .i64 k ∧ v = .slice A' (clAt gs (roundsS n) k).length c' ∧ Hid (SetOf Try.prog wr 9 4 w.heap.size (clAt gs (roundsS n) k).length (keysS (clAt gs (roundsS n) k))) ∧ Hid (Owned strE 1 9 wr (w.heap.size + 1) A' (clAt gs (roundsS n) k).length c' (clAt gs (roundsS n) k)) ∧ Below w.heap.size w wr) (fun _ i _ => fact n - (intOf i).toNat)
  case atStart => exact ⟨0, some ⟨w1.heap.size, 0, none⟩, 1, Nat.zero_le _, hm, rfl, rfl, HM1, Lib.hid (own_lit1_at' strE_len w1 9 (roundsS n) rfl hw1), by (repeat' (first | (with_reducible exact Below.refl _ _) | (with_reducible assumption) | (with_reducible refine below_drewN ?_ _) | (with_reducible refine Below.drew ?_) | (with_reducible refine below_alloc ?_ _) | (with_reducible refine Below.alloc ?_ ?_ _) | (with_reducible refine Below.setCell ?_ ?_ _) | (with_reducible refine below_go ?_ (by with_reducible assumption)) | (with_reducible refine below_then (by with_reducible assumption) ?_ ?_) | go_size))⟩
  case round =>
    obtain ⟨k, A1, c1, hk, hkm, rfl, rfl, HM, HO, hb⟩ := hrel
    rename World => w2
    have hle := HLE.out k
    have hle1 := HLE.out (k + 1)
    by_cases hlt : k < (clAt gs (roundsS n) k).length
    · obtain ⟨x, hx⟩ := some_of_lt hlt
      have HX := Lib.hid hx
      have hxN := (HOK.out k).2 x (List.mem_of_getElem? hx)
      have HP := Lib.hid (fun j (hj : j ≤ gs.length) => HPF.out k x hx j hj)
      have HNX := Lib.hid (clAt_more (gs := gs) (r := roundsS n) hx)
      have HPO := Lib.hid (fun j => (HOK.out k).part hxN HG.out j)
      clear hx
      go_wp2
      go_loopw [9, 29] (fun v i wr => ∃ (j : Nat) (A' : Option Addr) (c' : Nat), j ≤ gs.length ∧ (clPart gs x j (clAt gs (roundsS n) k)).length ≤ most ∧ i = .int .i64 j ∧ v = .slice A' (clPart gs x j (clAt gs (roundsS n) k)).length c' ∧ Hid (SetOf Try.prog wr 9 4 w.heap.size (clPart gs x j (clAt gs (roundsS n) k)).length (keysS (clPart gs x j (clAt gs (roundsS n) k)))) ∧ Hid (Owned strE 1 9 wr (w.heap.size + 1) A' (clPart gs x j (clAt gs (roundsS n) k)).length c' (clPart gs x j (clAt gs (roundsS n) k))) ∧ Below w.heap.size w wr) (fun _ i _ => gs.length - (intOf i).toNat)
      case atStart => exact ⟨0, A1, c1, Nat.zero_le _, hkm, rfl, rfl, HM, HO, hb⟩
      case round =>
        clear HM HO hb
        obtain ⟨j, A1, c1, hj, hjm, rfl, rfl, HM, HO, hb⟩ := hrel
        rename World => w3
        have hlen := (HPO.out j).le
        have hpl := pre_len (clPart_pre gs x j (clAt gs (roundsS n) k))
        by_cases hjl : j < gs.length
        · obtain ⟨b1, o1, g, rfl, hbb, hgj, hcg0⟩ := h.at_str hjl
          have hcg := (hb.cell (p := ⟨b1, o1 + j, none⟩) hbb).trans hcg0
          obtain ⟨b2, rfl, hb2lo, _, gc, _⟩ := HO.out.at_ (by omega)
          have hcx := gc k x 0 _ (pre_at (clPart_pre gs x j (clAt gs (roundsS n) k)) HX.out) rfl
          simp only [Nat.mul_one, Nat.add_zero] at hcx
          have hgN := HG.out g (List.mem_of_getElem? hgj)
          have hft := rowN_fits hxN hgN
          have hxs : x.size ≤ 16777216 := by rw [hxN.2]; omega
          have hgz : g.size ≤ 16777216 := by rw [hgN.2]; omega
          have hrN := hxN.times hgN
          have HS := Lib.hid (clPart_succ (x := x) (clAt gs (roundsS n) k) hgj)
          obtain ⟨r, hr'⟩ : ∃ r, r = timesS x g := ⟨_, rfl⟩
          have HRD := Lib.hid hr'
          have hkey := keyOf_string_mk (P := Try.prog) (k := 9) Try.underlying9 (s := r) (by rw [hr', hrN.2]; unfold maxLen; omega)
          have HKEY := Lib.hid hkey
          clear gc hgj hcg0 hkey hr'
          go_wp2_with fail
          refine (impl_times hxs hgz hft).mono ?_; rw [← HRD.out]; rintro e w4 ⟨rfl, hb4⟩
          clear hcx hcg hft
          have hB4 := below_go hb hb4
          have HM4 := Lib.hid (HM.out.up hb4)
          have HO4 := Lib.hid (HO.out.up hb4)
          have lk := HM4.out.look (t := 116) KS Try.underlying116 Try.underlying4 (by kernel_rfl) HKEY.out
          have mem : strV r ∈ keysS (clPart gs x j (clAt gs (roundsS n) k)) ↔ r ∈ clPart gs x j (clAt gs (roundsS n) k) := keysS_mem
          by_cases hin : r ∈ clPart gs x j (clAt gs (roundsS n) k)
          · have lk1 := lk.1 (mem.2 hin)
            have e1 := Lib.hid (show clPart gs x (j + 1) (clAt gs (roundsS n) k) = clPart gs x j (clAt gs (roundsS n) k) by rw [HS.out, clAdd_in (by rw [← HRD.out]; exact hin)])
            clear lk mem hin
            go_wp2
            go_roundw
            case rel => exact ⟨j + 1, _, _, by omega, by rw [e1.out]; exact hjm, by go_num, by rw [e1.out], Lib.hid (by rw [e1.out]; exact HM4.out), Lib.hid (by rw [e1.out]; exact HO4.out), hB4⟩
            case measure => simp [intOf]; omega
          · have lk1 := lk.2 (fun q => hin (mem.1 q))
            have e1 := Lib.hid (show clPart gs x (j + 1) (clAt gs (roundsS n) k) = clPart gs x j (clAt gs (roundsS n) k) ++ [r] by rw [HS.out, clAdd_new (by rw [← HRD.out]; exact hin), ← HRD.out])
            have hl1 := pre_len (HP.out (j + 1) (by omega))
            rw [e1.out, List.length_append, List.length_singleton] at hl1
            clear lk mem hin
            by_cases hmost : (clPart gs x j (clAt gs (roundsS n) k)).length = most
            · have hq : ((clPart gs x j (clAt gs (roundsS n) k)).length : Int) = (most : Int) := by omega
              have hno := Lib.hid (show ¬ (clF n gs).length ≤ most by omega)
              have hdec := Lib.hid (decide_eq_false hno.out)
              clear hmost
              go_wp2
              go_ret2
              rw [hdec.out]
              exact ⟨none, 0, 0, rfl, fun q => absurd q hno.out, fun _ => ⟨rfl, rfl, rfl⟩, hB4⟩
            · have hq : ¬ ((clPart gs x j (clAt gs (roundsS n) k)).length : Int) = (most : Int) := by omega
              have hno : b2 ≠ w.heap.size := by omega
              have hs4 := hb4.size
              have el : (clPart gs x j (clAt gs (roundsS n) k) ++ [r]).length = (clPart gs x j (clAt gs (roundsS n) k)).length + 1 := by simp
              have EL := Lib.hid el
              have hlm : (clPart gs x j (clAt gs (roundsS n) k)).length + 1 ≤ most := by omega
              clear hmost el
              go_wp2_with (first | (at_mapUpdate; go_must ((refine wpList_set_add rfl (.tmp 46) (.tmp 47) (.const (.bool true)) 116 rfl KS Try.underlying116 Try.underlying4 rfl HM4.out ?_ (key := strV r) rfl rfl HKEY.out ?_; (focus (first | omega | (simp only [World.size_alloc]; done) | (simp only [World.size_alloc]; omega) | (simp; done) | (simp; omega))); intro w5 hm5 hg5; have HO5 := Lib.hid (HO4.out.past hg5 (Nat.lt_succ_self _)); have hs5 := hg5.size))) | (at_builtin; go_must ((refine wpList_append_recs Try.elStr strE_one rfl (.tmp 48) (.tmp 50) rfl rfl (HO5.out.alloc _) rfl (own_lit1_at' strE_len w5 9 r rfl (Nat.le_refl _)).recs rfl ?_ (by decide) ?_ ?_; (focus (first | omega | (simp only [World.size_alloc]; done) | (simp only [World.size_alloc]; omega) | (simp; done) | (simp; omega))); (focus (first | omega | (simp only [World.size_alloc]; done) | (simp only [World.size_alloc]; omega) | (simp; done) | (simp; omega))); intro A3 c3 w6 ho6 hg6 hl6))))
              have hm6 := (hm5.alloc (.cells #[.string r] 9)).kept hg6 (fun e => by injection e with e; exact hno e.symm)
              have hb6 : Below w.heap.size w w6 := ((hB4.grown hg5 hB4.size (fun k hk => by injection hk with hk; omega)).alloc (by omega) _).trans (grown_base hg6 (by simp; omega) (fun k hk => by injection hk with hk; dsimp only at hk; omega))
              go_roundw
              case rel => exact ⟨j + 1, A3, c3, by omega, by rw [e1.out, EL.out]; omega, by go_num, by rw [e1.out, EL.out], Lib.hid (by rw [e1.out, EL.out, keysS_snoc]; exact hm6), Lib.hid (by rw [e1.out, EL.out]; exact ho6), hb6⟩
              case measure => simp [intOf]; omega
        · obtain rfl : j = gs.length := by omega
          have e1 := Lib.hid HNX.out.symm
          go_wp2
          go_roundw
          case rel => exact ⟨k + 1, A1, c1, by rw [HNX.out]; omega, by rw [HNX.out]; exact hjm, by go_num, by rw [HNX.out], Lib.hid (by rw [HNX.out]; exact HM.out), Lib.hid (by rw [HNX.out]; exact HO.out), hb⟩
          case measure => simp [intOf]; omega
    · have hke : (clAt gs (roundsS n) k).length = k := by omega
      have e1 := Lib.hid (HEND.out k hke)
      have hkp : 0 < (clAt gs (roundsS n) k).length := clAt_pos k
      obtain ⟨b2, rfl, hb2lo, hb2hi, _, _⟩ := HO.out.at_ hkp
      clear hke
      go_wp2_with fail
      refine (sort_strs HO.out (by omega)).mono ?_; rintro e w3 ⟨rfl, L, hoL, hpL, hsL, hg3⟩
      have hb3 : Below w.heap.size w w3 := hb.grown hg3 hb.size (fun k hk => by injection hk with hk; omega)
      go_wp2
      go_ret2
      rw [e1.out, decide_eq_true hkm]
      exact ⟨_, _, _, rfl, fun _ => ⟨rfl, L, hoL.base_le (Nat.le_succ _), hpL, hsL⟩, fun q => absurd hkm q, hb3⟩
end Go.Proofs.Ytpccbmndgdiloaa
/- The walk through a row's place, the reference's side; the row of marks by places. -/
namespace Go.Proofs.Ytpccbmndgdiloaa
set_option linter.unusedVariables false
set_option linter.unusedSimpArgs false
open Go.ChangeShapes Go.WideShapes Go.ChangeAt Go.RowKit Go.Deep
theorem nums_drop {s : ByteArray} {k : Nat} (h : k < s.size) : (nums s).drop k = PlainAid.bt s k :: (nums s).drop (k + 1) := drop_someZ (nums_at h)
set_option maxRecDepth 100000 in
theorem spec_l1Place {s : ByteArray} {w : World} (hz : s.size ≤ 8) :
    Calls Try.prog 175 #[.string s] w fun e w' => e = .returned (.int .i64 (place s)) ∧ Below w.heap.size w w' := by
  have gb := PlainAid.get_bt s
  have hpl := place_lt s
  have h40 := fact_le s.size (by omega)
  have hP : place s ≤ 40320 := by omega
  have H0 := Lib.hid (show lh 0 ((nums s).drop 0) = place s from (place_lh s).symm)
  have HL := Lib.hid (fun k (r : List Int) => lh_le r k)
  have HC := Lib.hid (fun x (r : List Int) => cnt_le x r)
  clear hpl h40
  go_in
  go_wp2
  go_loopw [3, 4] (fun v i wr => ∃ i' k : Nat, i' ≤ s.size ∧ i = .int .i64 i' ∧ v = .int .i64 k ∧ k ≤ place s ∧ Hid (lh k ((nums s).drop i') = place s) ∧ Below w.heap.size w wr) (fun _ i _ => s.size - (intOf i).toNat)
  case atStart => exact ⟨0, 0, Nat.zero_le _, rfl, rfl, Nat.zero_le _, H0, Below.refl _ _⟩
  case round =>
    obtain ⟨i, k, hi, rfl, rfl, hk, HK, hbl⟩ := hrel
    by_cases hlt : i < s.size
    · have HD := Lib.hid (nums_drop hlt)
      go_wp2
      go_loopw [5, 6] (fun v x wr => ∃ j q : Nat, i + 1 ≤ j ∧ j ≤ s.size ∧ x = .int .i64 j ∧ v = .int .i64 q ∧ q ≤ j ∧ Hid (q + cnt (PlainAid.bt s i) ((nums s).drop j) = cnt (PlainAid.bt s i) ((nums s).drop (i + 1))) ∧ Below w.heap.size w wr) (fun _ x _ => s.size - (intOf x).toNat)
      case atStart => exact ⟨i + 1, 0, Nat.le_refl _, hlt, by go_num, rfl, Nat.zero_le _, Lib.hid (Nat.zero_add _), hbl⟩
      case round =>
        obtain ⟨j, q, hij, hj, rfl, rfl, hq, HQ, hb2⟩ := hrel
        by_cases hjl : j < s.size
        · have HJ := Lib.hid (nums_drop hjl)
          by_cases hc : PlainAid.bt s j < PlainAid.bt s i
          · have E := Lib.hid (show q + 1 + cnt (PlainAid.bt s i) ((nums s).drop (j + 1)) = cnt (PlainAid.bt s i) ((nums s).drop (i + 1)) by rw [← HQ.out, HJ.out, cnt_cons, if_pos hc]; omega)
            go_wp2
            go_quiet (fail)
            go_wp2
            go_roundw
            case rel => exact ⟨j + 1, q + 1, by omega, by omega, by go_num, by go_num, by omega, E, by (repeat' (first | (with_reducible exact Below.refl _ _) | (with_reducible assumption) | (with_reducible refine below_drewN ?_ _) | (with_reducible refine Below.drew ?_) | (with_reducible refine below_alloc ?_ _) | (with_reducible refine Below.alloc ?_ ?_ _) | (with_reducible refine Below.setCell ?_ ?_ _) | (with_reducible refine below_go ?_ (by with_reducible assumption)) | (with_reducible refine below_then (by with_reducible assumption) ?_ ?_) | go_size))⟩
            case measure => simp [intOf]; omega
          · have E := Lib.hid (show q + cnt (PlainAid.bt s i) ((nums s).drop (j + 1)) = cnt (PlainAid.bt s i) ((nums s).drop (i + 1)) by rw [← HQ.out, HJ.out, cnt_cons, if_neg hc]; omega)
            go_wp2
            go_quiet (fail)
            go_wp2
            go_roundw
            case rel => exact ⟨j + 1, q, by omega, by omega, by go_num, rfl, by omega, E, by (repeat' (first | (with_reducible exact Below.refl _ _) | (with_reducible assumption) | (with_reducible refine below_drewN ?_ _) | (with_reducible refine Below.drew ?_) | (with_reducible refine below_alloc ?_ _) | (with_reducible refine Below.alloc ?_ ?_ _) | (with_reducible refine Below.setCell ?_ ?_ _) | (with_reducible refine below_go ?_ (by with_reducible assumption)) | (with_reducible refine below_then (by with_reducible assumption) ?_ ?_) | go_size))⟩
            case measure => simp [intOf]; omega
        · obtain rfl : j = s.size := by omega
          have E := Lib.hid (show q = cnt (PlainAid.bt s i) ((nums s).drop (i + 1)) by
            rw [← HQ.out, List.drop_eq_nil_of_le (by rw [nums_len]; exact Nat.le_refl _)]; rfl)
          have E2 := Lib.hid (show lh (k * (s.size - i) + q) ((nums s).drop (i + 1)) = place s by
            rw [← HK.out, HD.out, lh, E.out, List.length_drop, nums_len, show s.size - (i + 1) + 1 = s.size - i by omega])
          have h1 : k * (s.size - i) + q ≤ place s := by
            have := HL.out (k * (s.size - i) + q) ((nums s).drop (i + 1))
            rw [E2.out] at this; exact this
          obtain ⟨p, hp⟩ : ∃ p, p = k * (s.size - i) := ⟨_, rfl⟩
          have e0 : (s.size : Int) - (i : Int) = ((s.size - i : Nat) : Int) := by omega
          have e3 : (k : Int) * ((s.size : Int) - (i : Int)) = (p : Int) := by rw [e0, hp]; push_cast; rfl
          rw [← hp] at E2 h1
          have e4 : IntKind.i64.wrap ((s.size : Int) - (i : Int)) = (s.size : Int) - (i : Int) := wrap_id (by omega)
          have e5 : IntKind.i64.wrap ((k : Int) * ((s.size : Int) - (i : Int))) = (p : Int) := by rw [e3]; exact wrap_id (by omega)
          have e6 : IntKind.i64.wrap ((p : Int) + (q : Int)) = ((p + q : Nat) : Int) := by rw [wrap_id (by omega)]; push_cast; rfl
          clear hp e0 e3
          go_wp2
          go_roundw
          case rel => exact ⟨i + 1, p + q, by omega, by go_num, by go_num, h1, E2, hb2⟩
          case measure => simp [intOf]; omega
    · obtain rfl : i = s.size := by omega
      have E := Lib.hid (show k = place s by
        rw [← HK.out, List.drop_eq_nil_of_le (by rw [nums_len]; exact Nat.le_refl _)]; rfl)
      go_wp2
      go_ret
      rw [E.out]
      exact ⟨rfl, hbl⟩
/-- Which rows of a stage a list has, by their places. -/
def MarkR (n : Nat) (L : List ByteArray) (m : List Bool) : Prop := m.length = fact n ∧ ∀ s, RowN n s → m[place s]? = some (inL L s)
theorem MarkR.none (n : Nat) : MarkR n [] (List.replicate (fact n) false) :=
  ⟨by simp, fun s hs => by rw [List.getElem?_replicate, if_pos (rowN_place hs)]; rfl⟩
theorem MarkR.add {n : Nat} {L : List ByteArray} {m : List Bool} {x : ByteArray} (h : MarkR n L m) (hx : RowN n x) : MarkR n (L ++ [x]) (m.set (place x) true) := by
  refine ⟨by rw [List.length_set]; exact h.1, fun s hs => ?_⟩
  rw [List.getElem?_set]
  by_cases e : place x = place s
  · rw [if_pos e, if_pos (by rw [h.1]; exact rowN_place hx)]
    rw [rowN_inj hx hs e, inL_iff.2 (by simp)]
  · rw [if_neg e, h.2 s hs]
    have hne : ¬ x = s := fun q => e (by rw [q])
    congr 1
    rw [inL, inL, List.any_append]
    simp [hne]
theorem MarkR.at_ {n : Nat} {L : List ByteArray} {m : List Bool} {x : ByteArray} (h : MarkR n L m) (hx : RowN n x) : m[place x]? = some (inL L x) := h.2 x hx
theorem spec_l6Seen {n : Nat} {w : World} (h8 : n ≤ 8) :
    Calls Try.prog 174 #[.int .i64 n] w fun e w' => ∃ g, e = .returned (.slice (some ⟨g, 0, none⟩) (fact n) (fact n)) ∧ Owned boolE 1 4 w' w.heap.size (some ⟨g, 0, none⟩) (fact n) (fact n) (List.replicate (fact n) false) ∧ Below w.heap.size w w' := by
  have h40 := fact_le n (by omega)
  have hmk := run_make_rec (P := Try.prog) (e := boolE) Try.elBool false rfl (fact n) (by omega) (by decide)
  have O0 := Owned.made (e := boolE) boolE_len w 4 false (fact n) (by omega) (Nat.le_refl w.heap.size)
  go_in
  go_wp2_with (first | (go_at_call 123; refine (spec_l1Fact h8).mono ?_; rintro e w' ⟨rfl, rfl⟩))
  go_ret
  exact ⟨_, rfl, by simpa using O0, by (repeat' (first | (with_reducible exact Below.refl _ _) | (with_reducible assumption) | (with_reducible refine below_drewN ?_ _) | (with_reducible refine Below.drew ?_) | (with_reducible refine below_alloc ?_ _) | (with_reducible refine Below.alloc ?_ ?_ _) | (with_reducible refine Below.setCell ?_ ?_ _) | (with_reducible refine below_go ?_ (by with_reducible assumption)) | (with_reducible refine below_then (by with_reducible assumption) ?_ ?_) | go_size))⟩
end Go.Proofs.Ytpccbmndgdiloaa
