/- The walks through changes, the program's side. -/
import Derived.Test.YtmdmnjjlpefigaaW02
namespace Go.Proofs.Ytmdmnjjlpefigaa
set_option linter.unusedVariables false
set_option linter.unusedSimpArgs false
open Go.ChangeShapes Go.WideShapes Go.ChangeAt Go.RowKit Go.Deep
set_option maxRecDepth 100000 in
theorem impl_places {c : ByteArray} {w : World} (hz : c.size ≤ 16777216) :
    Calls Try.prog 159 #[.string c] w fun e w' => ∃ A' c', e = .returned (.tuple #[.slice A' (plR c).length c', .bool (validD c)]) ∧
      Owned intE 1 3 w' w.heap.size A' (plR c).length c' (plR c) ∧ Below w.heap.size w w' := by
  have hb := PlainAid.get_bt c
  go_in
  go_wp2
  go_loopw [4, 9] (fun v i wr => ∃ (k : Nat) (A' : Option Addr) (m c' : Nat), k ≤ c.size ∧ i = .int .i64 k ∧ v = .slice A' m c' ∧ m = k ∧ Hid (∀ j, j < k → inB (dg c j) 1 8 = true) ∧ Owned intE 1 3 wr w.heap.size A' m c' ((digs c).take k) ∧ Below w.heap.size w wr) (fun _ i _ => c.size - (intOf i).toNat)
  case atStart => exact ⟨0, _, _, _, Nat.zero_le _, rfl, rfl, rfl, Lib.hid (fun j hj => absurd hj (by omega)), Owned.empty intE_len _ _ (by simp), by (repeat' (first | (with_reducible exact Below.refl _ _) | (with_reducible assumption) | (with_reducible refine below_drewN ?_ _) | (with_reducible refine Below.drew ?_) | (with_reducible refine below_alloc ?_ _) | (with_reducible refine Below.alloc ?_ ?_ _) | (with_reducible refine Below.setCell ?_ ?_ _) | (with_reducible refine below_go ?_ (by with_reducible assumption)) | (with_reducible refine below_then (by with_reducible assumption) ?_ ?_) | go_size))⟩
  case round =>
    obtain ⟨k, A', m, c', hk, rfl, rfl, rfl, HK, ho, hbl⟩ := hrel
    have HO := Lib.hid ho
    have hsz := hbl.size
    clear ho
    by_cases hlt : m < c.size
    · have HT := Lib.hid (digs_take hlt)
      have hn0 := PlainAid.bt_nonneg c m
      have hn1 := PlainAid.bt_le c m
      by_cases h1 : PlainAid.bt c m < 49
      · have e0 := Lib.hid (valid_bad hlt (dg_low h1))
        go_wp2
        go_ret2
        rw [plR_f e0.out, e0.out]
        exact ⟨none, 0, rfl, Owned.nil intE_len _ _ _, hbl⟩
      by_cases h2 : 56 < PlainAid.bt c m
      · have e0 := Lib.hid (valid_bad hlt (dg_high h2))
        go_wp2
        go_ret2
        rw [plR_f e0.out, e0.out]
        exact ⟨none, 0, rfl, Owned.nil intE_len _ _ _, hbl⟩
      have hw2 := wrap_dg c m
      have e1 := Lib.hid (dg_mid h1 h2)
      have hdg : PlainAid.bt c m - 48 = dg c m := rfl
      go_wp2_with (first | (at_builtin; go_must ((refine wpList_append_rec Try.elInt rfl (.tmp 22) (.tmp 28) rfl rfl (HO.out.alloc _) (dg c m) rfl (Box.at_ _ [.int .i64 (dg c m)] _ ?_) (intE_one _) ?_ (by decide) ?_ ?_; (focus (first | omega | (simp only [World.size_alloc]; done) | (simp only [World.size_alloc]; omega) | (simp; done) | (simp; omega))); (focus (first | omega | (simp only [World.size_alloc]; done) | (simp only [World.size_alloc]; omega) | (simp; done) | (simp; omega))); (focus (first | omega | (simp only [World.size_alloc]; done) | (simp only [World.size_alloc]; omega) | (simp; done) | (simp; omega))); intro A2 c2 w2 ho2 hg2 hb2))))
      go_roundw
      case rel =>
        exact ⟨m + 1, A2, m + 1, c2, by omega, by go_num, by go_num, rfl, Lib.hid (fun j hj => by rcases Nat.lt_succ_iff_lt_or_eq.1 hj with h | rfl; exact HK.out j h; exact e1.out), by rw [HT.out]; exact ho2, (hbl.alloc hsz _).trans hb2⟩
      case measure => simp [intOf]; omega
    · obtain rfl : m = c.size := by omega
      have e0 := Lib.hid (valid_good (fun j hj => HK.out j hj))
      have e1 := Lib.hid (show plR c = (digs c).take c.size by rw [plR_t e0.out, List.take_of_length_le (by rw [digs_len]; omega)])
      have hl := HO.out.len
      rw [← e1.out] at hl
      go_wp2
      go_ret2
      rw [e0.out, hl]
      refine ⟨_, _, rfl, ?_, hbl⟩
      rw [e1.out]; exact HO.out
theorem arePl_0 {n : Int} {l : List Int} (h : ¬ 0 < l.length) : arePl n l = false := by simp [arePl, h]
theorem arePl_n {n : Int} {l : List Int} (h : ((l.length : Int) == n) = true) : arePl n l = false := by simp [arePl, h]
theorem arePl_first {n x : Int} {l : List Int} (hx : l[0]? = some x) (h : (x % 2 == 0) = true) : arePl n l = false := by simp [arePl, List.getD, hx, h]
theorem arePl_par {n y : Int} {l : List Int} (hy : l[l.length - 1]? = some y) (h : (y % 2 == n % 2) = false) : arePl n l = false := by simp [arePl, List.getD, hy, h]
theorem arePl_big {n y : Int} {l : List Int} (hy : l[l.length - 1]? = some y) (h : n < y) : arePl n l = false := by
  have : decide (y ≤ n) = false := by simp; omega
  simp [arePl, List.getD, hy, this]
theorem arePl_adj {n x y : Int} {l : List Int} (h0 : 0 < l.length) (hn : ((l.length : Int) == n) = false) (hx : l[0]? = some x) (hx1 : (x % 2 == 0) = false) (hy : l[l.length - 1]? = some y) (hy1 : (y % 2 == n % 2) = true) (hy2 : ¬ n < y) :
    arePl n l = adj x (l.drop 1) := by
  have : decide (y ≤ n) = true := by simp; omega
  simp only [arePl, List.getD, hx, hy, Option.getD_some, h0, hn, hx1, hy1, this, decide_true, Bool.not_false, Bool.true_and]
set_option maxRecDepth 100000 in
theorem impl_arePlaces {A : Option Addr} {N c : Nat} {l : List Int} {n : Int} {w : World} (hN : l.length = N) (h : Ints w A l) (hz : N ≤ 16777216) (hn : 3 ≤ n ∧ n ≤ 8) (ha : ∀ x ∈ l, 1 ≤ x ∧ x ≤ 8) :
    Calls Try.prog 160 #[.int .i64 n, .slice A N c] w fun e w' => e = .returned (.bool (arePl n l)) ∧ Below w.heap.size w w' := by
  subst hN
  by_cases h0 : 0 < l.length
  · obtain ⟨b, o, x, rfl, hbb, hx, hc⟩ := h.at_int h0
    obtain ⟨b', o', y, hA, hbb', hy, hc'⟩ := h.at_int (k := l.length - 1) (by omega)
    injection hA with hA
    injection hA with e1 e2
    subst e1 e2
    have hx8 := ha x (List.mem_of_getElem? hx)
    have hy8 := ha y (List.mem_of_getElem? hy)
    simp only [Nat.add_zero] at hc
    have hz0 : ((l.length : Int) == 0) = false := beq_eq_false_iff_ne.2 (by omega)
    have hpred : ((l.length : Int) - 1) = ((l.length - 1 : Nat) : Int) := by omega
    rcases h1 : ((l.length : Int) == n)
    · rcases h2 : (x % 2 == 0)
      · rcases h3 : (y % 2 == n % 2)
        · have e0 := Lib.hid (arePl_par (n := n) hy h3)
          have h3' : (y % 2 != n % 2) = true := by rw [bne, h3]; rfl
          clear hx hy h
          go_in
          go_wp2
          go_ret
          exact ⟨ret_bool e0.out.symm, Below.refl _ _⟩
        · have h3' : (y % 2 != n % 2) = false := by rw [bne, h3]; rfl
          by_cases h4 : n < y
          · have e0 := Lib.hid (arePl_big (n := n) hy h4)
            clear hx hy h
            go_in
            go_wp2
            go_ret
            exact ⟨ret_bool e0.out.symm, Below.refl _ _⟩
          · have e0 := Lib.hid (arePl_adj h0 h1 hx h2 hy h3 h4)
            have HX := Lib.hid hx
            clear hx hy
            go_in
            go_wp2
            go_loopw [5] (fun i wr => ∃ (k : Nat) (q : Int), 0 < k ∧ k ≤ l.length ∧ i = .int .i64 k ∧ Hid (l[k - 1]? = some q ∧ arePl n l = adj q (l.drop k)) ∧ Below w.heap.size w wr) (fun i _ => l.length - (intOf i).toNat)
            case atStart => exact ⟨1, x, by omega, by omega, rfl, Lib.hid ⟨HX.out, e0.out⟩, Below.refl _ _⟩
            case round =>
              obtain ⟨k, q, hk0, hk, rfl, HK, hb⟩ := hrel
              by_cases hlt : k < l.length
              · obtain ⟨b3, o3, y3, hA3, hbb3, hy3, hc3⟩ := (h.below hb (Nat.le_refl _)).at_int hlt
                obtain ⟨b4, o4, y4, hA4, hbb4, hy4, hc4⟩ := (h.below hb (Nat.le_refl _)).at_int (k := k - 1) (by omega)
                injection hA3 with hA3
                injection hA3 with e3 e4
                injection hA4 with hA4
                injection hA4 with e5 e6
                subst e3 e4 e5 e6
                rw [HK.out.1] at hy4
                injection hy4 with hy4
                subst hy4
                have HD := Lib.hid (show l.drop k = y3 :: l.drop (k + 1) by rw [List.drop_eq_getElem_cons hlt]; congr 1; rw [List.getElem?_eq_getElem hlt] at hy3; injection hy3)
                have HY := Lib.hid hy3
                have hq8 := ha q (List.mem_of_getElem? HK.out.1)
                have hy38 := ha y3 (List.mem_of_getElem? hy3)
                clear hy3 hpred hz0 h1 h2 h3 h3' h4 hx8 hy8 hc hc' h
                have hwk : IntKind.i64.wrap ((k : Int) - 1) = ((k - 1 : Nat) : Int) := by
                  rw [PlainAid.i64_is]; unfold wrap64; omega
                have hlt1 : k - 1 < l.length := by omega
                by_cases h5 : q < y3
                · have hmod : (IntKind.i64.wrap (y3 - q)).tmod 2 = (y3 - q) % 2 := by
                    rw [PlainAid.i64_is, show wrap64 (y3 - q) = y3 - q by unfold wrap64; omega]
                    exact Int.tmod_eq_emod_of_nonneg (by omega)
                  rcases h6 : ((y3 - q) % 2 == 0)
                  · have e1 := Lib.hid (show arePl n l = adj y3 (l.drop (k + 1)) by rw [HK.out.2, HD.out, adj, h6, decide_eq_true h5]; rfl)
                    go_wp2
                    go_quiet (fail)
                    go_wp2
                    go_roundw
                    case rel => exact ⟨k + 1, y3, by omega, by omega, by go_num, Lib.hid ⟨by rw [Nat.add_sub_cancel]; exact HY.out, e1.out⟩, by (repeat' (first | (with_reducible exact Below.refl _ _) | (with_reducible assumption) | (with_reducible refine below_drewN ?_ _) | (with_reducible refine Below.drew ?_) | (with_reducible refine below_alloc ?_ _) | (with_reducible refine Below.alloc ?_ ?_ _) | (with_reducible refine Below.setCell ?_ ?_ _) | (with_reducible refine below_go ?_ (by with_reducible assumption)) | (with_reducible refine below_then (by with_reducible assumption) ?_ ?_) | go_size))⟩
                    case measure => simp [intOf]; omega
                  · have e1 := Lib.hid (show arePl n l = false by rw [HK.out.2, HD.out, adj, h6, decide_eq_true h5]; rfl)
                    go_wp2
                    go_quiet (fail)
                    go_wp2
                    go_ret
                    exact ⟨ret_bool e1.out.symm, by (repeat' (first | (with_reducible exact Below.refl _ _) | (with_reducible assumption) | (with_reducible refine below_drewN ?_ _) | (with_reducible refine Below.drew ?_) | (with_reducible refine below_alloc ?_ _) | (with_reducible refine Below.alloc ?_ ?_ _) | (with_reducible refine Below.setCell ?_ ?_ _) | (with_reducible refine below_go ?_ (by with_reducible assumption)) | (with_reducible refine below_then (by with_reducible assumption) ?_ ?_) | go_size))⟩
                · have e1 := Lib.hid (show arePl n l = false by rw [HK.out.2, HD.out, adj, decide_eq_false h5]; rfl)
                  go_wp2
                  go_quiet (fail)
                  go_wp2
                  go_ret
                  exact ⟨ret_bool e1.out.symm, by (repeat' (first | (with_reducible exact Below.refl _ _) | (with_reducible assumption) | (with_reducible refine below_drewN ?_ _) | (with_reducible refine Below.drew ?_) | (with_reducible refine below_alloc ?_ _) | (with_reducible refine Below.alloc ?_ ?_ _) | (with_reducible refine Below.setCell ?_ ?_ _) | (with_reducible refine below_go ?_ (by with_reducible assumption)) | (with_reducible refine below_then (by with_reducible assumption) ?_ ?_) | go_size))⟩
              · obtain rfl : k = l.length := by omega
                have e1 := Lib.hid (show arePl n l = true by rw [HK.out.2, List.drop_eq_nil_of_le (Nat.le_refl _)]; rfl)
                go_wp2
                go_ret
                exact ⟨ret_bool e1.out.symm, hb⟩
      · have e0 := Lib.hid (arePl_first (n := n) hx h2)
        clear hx hy h
        go_in
        go_wp2
        go_ret
        exact ⟨ret_bool e0.out.symm, Below.refl _ _⟩
    · have e0 := Lib.hid (arePl_n h1)
      clear hx hy h
      go_in
      go_wp2
      go_ret
      exact ⟨ret_bool e0.out.symm, Below.refl _ _⟩
  · have e0 := Lib.hid (arePl_0 (n := n) h0)
    have h1 : l.length = 0 := by omega
    rw [h1]
    clear h h0 h1
    go_in
    go_wp2
    go_ret
    exact ⟨ret_bool e0.out.symm, Below.refl _ _⟩
set_option maxRecDepth 100000 in
theorem impl_GoodChange {c : ByteArray} {n : Int} {w : World} (hz : c.size ≤ 16777216) :
    Calls Try.prog 117 #[.int .i64 n, .string c] w fun e w' => e = .returned (.bool (goodChange n c)) ∧ Below w.heap.size w w' := by
  rcases h1 : inB n 3 8
  · have e0 := Lib.hid (goodChange_stage (c := c) h1)
    go_in
    go_wp2_with (first | (go_at_call 115; refine (impl_isStage _ _).mono ?_; rintro e w' ⟨rfl, rfl⟩))
    go_ret
    exact ⟨ret_bool e0.out.symm, Below.refl _ _⟩
  have hn3 := inB_t h1
  rcases h6 : isDash c
  · have e0 := Lib.hid (good_impl hn3 h6)
    have h7 : (c.toList == [45]) = false := h6
    rcases hv : validD c
    · have e1 := Lib.hid (show goodChange n c = false by rw [e0.out, hv]; rfl)
      go_in
      go_wp2_with (first | (go_at_call 115; refine (impl_isStage _ _).mono ?_; rintro e w' ⟨rfl, rfl⟩) | (go_at_call 159; refine (impl_places hz).mono ?_; rintro e w1 ⟨A1, c1, rfl, ho1, hb1⟩; have hz1 : (plR c).length ≤ 16777216 := by (rw [plR_f hv]; decide)))
      go_ret
      exact ⟨ret_bool e1.out.symm, hb1⟩
    · have hva := valid_at hv
      have hpl := plR_t hv
      have hz1 : (plR c).length ≤ 16777216 := by rw [hpl, digs_len]; exact hz
      rw [← hpl] at hva
      have e1 := Lib.hid (show goodChange n c = arePl n (plR c) by rw [e0.out, hv, hpl]; rfl)
      clear hpl
      go_in
      go_wp2_with (first | (go_at_call 115; refine (impl_isStage _ _).mono ?_; rintro e w' ⟨rfl, rfl⟩) | (go_at_call 159; refine (impl_places hz).mono ?_; rintro e w1 ⟨A1, c1, rfl, ho1, hb1⟩) | (go_at_call 160; refine (impl_arePlaces rfl ho1.recs hz1 hn3 hva).mono ?_; rintro e w2 ⟨rfl, hb2⟩))
      go_ret
      exact ⟨ret_bool e1.out.symm, below_go hb1 hb2⟩
  · have e0 := Lib.hid (goodChange_dash h1 (dash_size hn3.1 h6) h6)
    have h7 : (c.toList == [45]) = true := h6
    go_in
    go_wp2_with (first | (go_at_call 115; refine (impl_isStage _ _).mono ?_; rintro e w' ⟨rfl, rfl⟩))
    go_ret
    exact ⟨ret_bool e0.out.symm, Below.refl _ _⟩
end Go.Proofs.Ytmdmnjjlpefigaa
