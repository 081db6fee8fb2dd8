/- The walks through lists of rows: which are good, their signs. -/
import Derived.Test.YtmdmnjjlpefigaaW01b
import Derived.Test.YtmdmnjjlpefigaaElems
namespace Go.Proofs.Ytmdmnjjlpefigaa
set_option linter.unusedVariables false
set_option linter.unusedSimpArgs false
open Go.ChangeShapes Go.WideShapes Go.ChangeAt Go.RowKit Go.Deep
theorem impl_isRowOf {s : ByteArray} {n : Nat} {w : World} (hz : s.size ≤ 16777216) :
    Calls Try.prog 158 #[.int .i64 n, .string s] w fun e w' => e = .returned (.bool (goodRow s && (s.size == n))) ∧ w = w' := by
  by_cases h1 : s.size = n
  · have h2 : ((s.size : Int) == (n : Int)) = true := beq_iff_eq.2 (by omega)
    have e0 := Lib.hid (show (goodRow s && (s.size == n)) = goodRow s by rw [show (s.size == n) = true from beq_iff_eq.2 h1, Bool.and_true])
    clear h1
    go_in
    go_wp2_with (first | (go_at_call 188; refine (impl_GoodRow hz).mono ?_; rintro e w' ⟨rfl, rfl⟩))
    go_ret
    exact ⟨ret_bool e0.out.symm, rfl⟩
  · have h2 : ((s.size : Int) == (n : Int)) = false := beq_eq_false_iff_ne.2 (by omega)
    have e0 := Lib.hid (show (goodRow s && (s.size == n)) = false by rw [show (s.size == n) = false from beq_eq_false_iff_ne.2 h1, Bool.and_false])
    clear h1
    go_in
    go_wp2
    go_ret
    exact ⟨ret_bool e0.out.symm, rfl⟩
set_option maxRecDepth 100000 in
theorem impl_GoodRows {A : Option Addr} {N c : Nat} {l : List ByteArray} {w : World} (hN : l.length = N) (h : Strs w A l) (hz : N ≤ 16777216) (hs : ∀ s ∈ l, s.size ≤ 16777216) :
    Calls Try.prog 109 #[.slice A N c] w fun e w' => e = .returned (.bool (goodRows l)) ∧ w = w' := by
  subst hN
  have HG : Hid (goodRows l = ((List.range l.length).all (okRow l) && decide (l.length ≤ 800))) := Lib.hid rfl
  have HS := Lib.hid hs
  clear hs
  by_cases h8 : l.length ≤ 800
  · go_in
    go_wp2
    go_loopw [10] (fun i wr => ∃ k : Nat, k ≤ l.length ∧ i = .int .i64 k ∧ Hid (∀ j, j < k → okRow l j = true) ∧ w = wr) (fun i _ => l.length - (intOf i).toNat)
    case atStart => exact ⟨0, Nat.zero_le _, rfl, Lib.hid (fun j hj => absurd hj (by omega)), rfl⟩
    case round =>
      obtain ⟨k, hk, rfl, HK, rfl⟩ := hrel
      by_cases hlt : k < l.length
      · obtain ⟨b1, o1, y, rfl, hbb, hy, hcy⟩ := h.at_str hlt
        obtain ⟨b2, o2, x, e, _, hx, hcx⟩ := h.at_str (k := 0) (by omega)
        injection e with e
        injection e with e1 e2
        subst e1 e2
        simp only [Nat.add_zero] at hcx
        have hys := HS.out y (List.mem_of_getElem? hy)
        have hxs := HS.out x (List.mem_of_getElem? hx)
        have E := Lib.hid (okRow_at hx hy)
        have hl0 : 0 < l.length := by omega
        clear hx hy h
        rcases hg : (goodRow y && (y.size == x.size))
        · have e0 := Lib.hid (show okRow l k = false by rw [E.out, hg])
          have hg1 := Lib.hid hg
          clear hg
          go_wp2_with (first | (go_at_call 158; refine (impl_isRowOf hys).mono ?_; rw [hg1.out]; rintro e w' ⟨rfl, rfl⟩))
          go_ret
          refine ⟨ret_bool ?_, rfl⟩
          rw [HG.out, all_bad hlt e0.out]
        · have e0 := Lib.hid (show okRow l k = true by rw [E.out, hg])
          have hg1 := Lib.hid hg
          clear hg
          go_wp2_with (first | (go_at_call 158; refine (impl_isRowOf hys).mono ?_; rw [hg1.out]; rintro e w' ⟨rfl, rfl⟩))
          go_roundw
          case rel => exact ⟨k + 1, by omega, by go_num, Lib.hid (upto_succ HK.out e0.out), trivial⟩
          case measure => simp [intOf]; omega
      · obtain rfl : k = l.length := by omega
        go_wp2
        go_ret
        refine ⟨ret_bool ?_, rfl⟩
        rw [HG.out, all_good (fun j hj => HK.out j hj), decide_eq_true h8]
  · have e0 := Lib.hid (show goodRows l = false by rw [HG.out, decide_eq_false h8, Bool.and_false])
    go_in
    go_wp2
    go_ret
    exact ⟨ret_bool e0.out.symm, rfl⟩
set_option maxRecDepth 100000 in
theorem spec_l6Rows {A : Option Addr} {N c : Nat} {l : List ByteArray} {w : World} (hN : l.length = N) (h : Strs w A l) (hz : N ≤ 16777216) (hs : ∀ s ∈ l, s.size ≤ 16777216) :
    Calls Try.prog 106 #[.slice A N c] w fun e w' => e = .returned (.bool (goodRows l)) ∧ Below w.heap.size w w' := by
  subst hN
  have HG : Hid (goodRows l = ((List.range l.length).all (okRow l) && decide (l.length ≤ 800))) := Lib.hid rfl
  have HS := Lib.hid hs
  clear hs
  go_in
  go_wp2
  go_loopw [7] (fun i wr => ∃ k : Nat, k ≤ l.length ∧ i = .int .i64 k ∧ Hid (∀ j, j < k → okRow l j = true) ∧ Below w.heap.size w wr) (fun i _ => l.length - (intOf i).toNat)
  case atStart => exact ⟨0, Nat.zero_le _, rfl, Lib.hid (fun j hj => absurd hj (by omega)), Below.refl _ _⟩
  case round =>
    obtain ⟨k, hk, rfl, HK, hb⟩ := hrel
    by_cases hlt : k < l.length
    · have hr := h.below hb (Nat.le_refl _)
      obtain ⟨b1, o1, y, rfl, hbb, hy, hcy⟩ := hr.at_str hlt
      obtain ⟨b2, o2, x, e, _, hx, hcx0⟩ := hr.at_str (k := 0) (by omega)
      injection e with e
      injection e with e1 e2
      subst e1 e2
      simp only [Nat.add_zero] at hcx0
      have hys := HS.out y (List.mem_of_getElem? hy)
      have hxs := HS.out x (List.mem_of_getElem? hx)
      have E := Lib.hid (okRow_at hx hy)
      have hl0 : 0 < l.length := by omega
      clear hx hy h hr
      rcases hg : goodRow y
      · have e0 := Lib.hid (show okRow l k = false by rw [E.out, hg]; rfl)
        go_wp2_with (first | (go_at_call 155; refine (spec_l1Row hys).mono ?_; rintro e w1 ⟨rfl, hb1⟩))
        go_ret
        refine ⟨ret_bool ?_, below_go hb hb1⟩
        rw [HG.out, all_bad hlt e0.out]
      · rcases hq : (y.size == x.size)
        · have e0 := Lib.hid (show okRow l k = false by rw [E.out, hg, hq]; rfl)
          have hq1 : ((y.size : Int) != (x.size : Int)) = true := by
            have := beq_eq_false_iff_ne.1 hq
            exact bne_iff_ne.2 (by omega)
          clear hq
          go_wp2_with (first | (go_at_call 155; refine (spec_l1Row hys).mono ?_; rintro e w1 ⟨rfl, hb1⟩; have hcx := (hb1.cell (p := ⟨b1, o1, none⟩) hbb).trans hcx0))
          go_ret
          refine ⟨ret_bool ?_, below_go hb hb1⟩
          rw [HG.out, all_bad hlt e0.out]
        · have e0 := Lib.hid (show okRow l k = true by rw [E.out, hg, hq]; rfl)
          have hq1 : ((y.size : Int) != (x.size : Int)) = false := by
            have := beq_iff_eq.1 hq
            rw [bne_eq_false_iff_eq]; omega
          clear hq
          go_wp2_with (first | (go_at_call 155; refine (spec_l1Row hys).mono ?_; rintro e w1 ⟨rfl, hb1⟩; have hcx := (hb1.cell (p := ⟨b1, o1, none⟩) hbb).trans hcx0))
          go_roundw
          case rel => exact ⟨k + 1, by omega, by go_num, Lib.hid (upto_succ HK.out e0.out), below_go hb hb1⟩
          case measure => simp [intOf]; omega
    · obtain rfl : k = l.length := by omega
      go_wp2
      go_ret
      refine ⟨ret_bool ?_, hb⟩
      rw [HG.out, all_good (fun j hj => HK.out j hj)]
      exact decide_eq_decide.2 (by omega)
set_option maxRecDepth 100000 in
theorem impl_signs {A : Option Addr} {N c : Nat} {l : List ByteArray} {w : World} (hN : l.length = N) (h : Strs w A l) (hz : N ≤ 16777216) (hs : ∀ s ∈ l, s.size ≤ 16777216) :
    Calls Try.prog 84 #[.slice A N c] w fun e w' => ∃ A' c', e = .returned (.slice A' (l.map evenRow).length c') ∧
      Owned boolE 1 4 w' w.heap.size A' (l.map evenRow).length c' (l.map evenRow) ∧ Below w.heap.size w w' := by
  subst hN
  have HS := Lib.hid hs
  clear hs
  go_in
  go_wp2
  go_loopw [3, 9] (fun v i wr => ∃ (k : Nat) (A' : Option Addr) (m c' : Nat), k ≤ l.length ∧ i = .int .i64 k ∧ v = .slice A' m c' ∧ m = k ∧ Owned boolE 1 4 wr w.heap.size A' m c' ((l.map evenRow).take k) ∧ Below w.heap.size w wr) (fun _ i _ => l.length - (intOf i).toNat)
  case atStart => exact ⟨0, _, _, _, Nat.zero_le _, rfl, rfl, rfl, Owned.empty boolE_len _ _ (by simp), by (repeat' (first | (with_reducible exact Below.refl _ _) | (with_reducible assumption) | (with_reducible refine below_drewN ?_ _) | (with_reducible refine Below.drew ?_) | (with_reducible refine below_alloc ?_ _) | (with_reducible refine Below.alloc ?_ ?_ _) | (with_reducible refine Below.setCell ?_ ?_ _) | (with_reducible refine below_go ?_ (by with_reducible assumption)) | (with_reducible refine below_then (by with_reducible assumption) ?_ ?_) | go_size))⟩
  case round =>
    obtain ⟨k, A', m, c', hk, rfl, rfl, rfl, ho, hbl⟩ := hrel
    have HO := Lib.hid ho
    have hsz := hbl.size
    clear ho
    by_cases hlt : m < l.length
    · obtain ⟨b1, o1, y, rfl, hbb, hy, hcy⟩ := (h.below hbl (Nat.le_refl _)).at_str hlt
      have hys := HS.out y (List.mem_of_getElem? hy)
      have HT := Lib.hid (map_take_succ evenRow hy)
      clear hy h
      go_wp2_with (first | (go_at_call 128; refine (impl_even hys).mono ?_; rintro e w1 ⟨rfl, hb1⟩; have HO1 := Lib.hid (HO.out.up hb1); have hsz1 := hb1.size) | (at_builtin; go_must ((refine wpList_append_rec Try.elBool rfl (.tmp 13) (.tmp 16) rfl rfl (HO1.out.alloc _) (evenRow y) rfl (Box.at_ _ [.bool (evenRow y)] _ ?_) (boolE_one _) ?_ (by decide) ?_ ?_; (focus (first | omega | (simp only [World.size_alloc]; done) | (simp only [World.size_alloc]; omega) | (simp; done) | (simp; omega))); (focus (first | omega | (simp only [World.size_alloc]; done) | (simp only [World.size_alloc]; omega) | (simp; done) | (simp; omega))); (focus (first | omega | (simp only [World.size_alloc]; done) | (simp only [World.size_alloc]; omega) | (simp; done) | (simp; omega))); intro A2 c2 w2 ho2 hg2 hb2))))
      go_roundw
      case rel =>
        exact ⟨m + 1, A2, m + 1, c2, by omega, by go_num, by go_num, rfl, by rw [HT.out]; exact ho2, ((hbl.trans (hb1.mono hsz)).alloc (by omega) _).trans hb2⟩
      case measure => simp [intOf]; omega
    · obtain rfl : m = l.length := by omega
      have e1 := Lib.hid (show (l.map evenRow).take l.length = l.map evenRow by rw [List.take_of_length_le (by simp)])
      have hl : (l.map evenRow).length = l.length := by simp
      go_wp2
      go_ret
      rw [hl]
      refine ⟨_, _, rfl, ?_, hbl⟩
      have := HO.out
      rw [e1.out] at this
      exact this
set_option maxRecDepth 100000 in
theorem spec_SignsOf {A : Option Addr} {N c : Nat} {l : List ByteArray} {w : World} (hN : l.length = N) (h : Strs w A l) (hz : N ≤ 16777216) (hs : ∀ s ∈ l, s.size ≤ 16777216) :
    Calls Try.prog 125 #[.slice A N c] w fun e w' => ∃ A' c', e = .returned (.tuple #[.slice A' (signsR l).length c', .bool (goodRows l)]) ∧
      Owned boolE 1 4 w' w.heap.size A' (signsR l).length c' (signsR l) ∧ (signsR l).length ≤ 16777216 ∧ Below w.heap.size w w' := by
  rcases h1 : goodRows l
  · have e0 := Lib.hid (signsR_f h1)
    go_in
    go_wp2_with (first | (go_at_call 106; refine (spec_l6Rows hN h hz hs).mono ?_; rintro e w1 ⟨rfl, hb1⟩))
    go_ret2
    rw [e0.out]
    exact ⟨none, 0, rfl, Owned.nil boolE_len _ _ _, by decide, hb1⟩
  have e0 := Lib.hid (signsR_t h1)
  subst hN
  have HS := Lib.hid hs
  go_in
  go_wp2_with (first | (go_at_call 106; refine (spec_l6Rows rfl h hz hs).mono ?_; rintro e w1 ⟨rfl, hb1⟩; clear hs))
  go_loopw [4, 12] (fun v i wr => ∃ (k : Nat) (A' : Option Addr) (m c' : Nat), k ≤ l.length ∧ i = .int .i64 k ∧ v = .slice A' m c' ∧ m = k ∧ Owned boolE 1 4 wr w.heap.size A' m c' ((l.map evenRow).take k) ∧ Below w.heap.size w wr) (fun _ i _ => l.length - (intOf i).toNat)
  case atStart => exact ⟨0, none, 0, 0, Nat.zero_le _, rfl, rfl, rfl, Owned.nil boolE_len _ _ _, hb1⟩
  case round =>
    obtain ⟨k, A', m, c', hk, rfl, rfl, rfl, ho, hbl⟩ := hrel
    have HO := Lib.hid ho
    have hsz := hbl.size
    clear ho
    by_cases hlt : m < l.length
    · obtain ⟨b1, o1, y, rfl, hbb, hy, hcy⟩ := (h.below hbl (Nat.le_refl _)).at_str hlt
      have hys := HS.out y (List.mem_of_getElem? hy)
      have HT := Lib.hid (map_take_succ evenRow hy)
      clear hy h
      go_wp2_with (first | (go_at_call 168; refine (spec_l1Even hys).mono ?_; rintro e w1 ⟨rfl, hb1⟩; have HO1 := Lib.hid (HO.out.up hb1); have hsz1 := hb1.size) | (at_builtin; go_must ((refine wpList_append_rec Try.elBool rfl (.tmp 16) (.tmp 19) rfl rfl (HO1.out.alloc _) (evenRow y) rfl (Box.at_ _ [.bool (evenRow y)] _ ?_) (boolE_one _) ?_ (by decide) ?_ ?_; (focus (first | omega | (simp only [World.size_alloc]; done) | (simp only [World.size_alloc]; omega) | (simp; done) | (simp; omega))); (focus (first | omega | (simp only [World.size_alloc]; done) | (simp only [World.size_alloc]; omega) | (simp; done) | (simp; omega))); (focus (first | omega | (simp only [World.size_alloc]; done) | (simp only [World.size_alloc]; omega) | (simp; done) | (simp; omega))); intro A2 c2 w2 ho2 hg2 hb2))))
      go_roundw
      case rel =>
        exact ⟨m + 1, A2, m + 1, c2, by omega, by go_num, by go_num, rfl, by rw [HT.out]; exact ho2, ((hbl.trans (hb1.mono hsz)).alloc (by omega) _).trans hb2⟩
      case measure => simp [intOf]; omega
    · obtain rfl : m = l.length := by omega
      have e1 := Lib.hid (show (l.map evenRow).take l.length = signsR l by rw [e0.out, List.take_of_length_le (by simp)])
      have hl : (signsR l).length = l.length := by rw [e0.out]; simp
      go_wp2
      go_ret2
      rw [hl]
      refine ⟨_, _, rfl, ?_, by omega, hbl⟩
      have := HO.out
      rw [e1.out] at this
      exact this
end Go.Proofs.Ytmdmnjjlpefigaa
