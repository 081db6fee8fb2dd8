/- Texts 3 of 5 that the claim leans on: plain laws and the walks' contracts, in order. -/
import Derived.Test.YtmdmnjjlpefigaaMExactNextHead2
import Derived.Deep.DeepCutAuto
/- The walks through lists of rows: which are good, their signs. -/
namespace Go.Proofs.Ytmdmnjjlpefigaa
set_option linter.unusedVariables false
set_option linter.unusedSimpArgs false
open Go.ChangeShapes Go.WideShapes Go.ChangeAt Go.RowKit Go.Deep
theorem impl_isRowOf {s : ByteArray} {n : Nat} {w : World} (hz : s.size ≤ 16777216) :
    Calls Try.prog 158 #[.int .i64 n, .string s] w fun e w' => e = .returned (.bool (goodRow s && (s.size == n))) ∧ w = w' := by
  by_cases h1 : s.size = n
  · have h2 : ((s.size : Int) == (n : Int)) = true := beq_iff_eq.2 (by omega)
    have e0 := Lib.hid (show (goodRow s && (s.size == n)) = goodRow s by rw [show (s.size == n) = true from beq_iff_eq.2 h1, Bool.and_true])
    clear h1
    go_in
    go_wp2_with (first | (go_at_call 188; refine (impl_GoodRow hz).mono ?_; rintro e w' ⟨rfl, rfl⟩))
    go_ret
    exact ⟨ret_bool e0.out.symm, rfl⟩
  · have h2 : ((s.size : Int) == (n : Int)) = false := beq_eq_false_iff_ne.2 (by omega)
    have e0 := Lib.hid (show (goodRow s && (s.size == n)) = false by rw [show (s.size == n) = false from beq_eq_false_iff_ne.2 h1, Bool.and_false])
    clear h1
    go_in
    go_wp2
    go_ret
    exact ⟨ret_bool e0.out.symm, rfl⟩
set_option maxRecDepth 100000 in
theorem impl_GoodRows {A : Option Addr} {N c : Nat} {l : List ByteArray} {w : World} (hN : l.length = N) (h : Strs w A l) (hz : N ≤ 16777216) (hs : ∀ s ∈ l, s.size ≤ 16777216) :
    Calls Try.prog 109 #[.slice A N c] w fun e w' => e = .returned (.bool (goodRows l)) ∧ w = w' := by
  subst hN
  have HG : Hid (goodRows l = ((List.range l.length).all (okRow l) && decide (l.length ≤ 800))) := Lib.hid rfl
  have HS := Lib.hid hs
  clear hs
  by_cases h8 : l.length ≤ 800
  · go_in
    go_wp2
    go_loopw [10] (fun i wr => ∃ k : Nat, k ≤ l.length ∧ i = .int .i64 k ∧ Hid (∀ j, j < k → okRow l j = true) ∧ w = wr) (fun i _ => l.length - (intOf i).toNat)
    case atStart => exact ⟨0, Nat.zero_le _, rfl, Lib.hid (fun j hj => absurd hj (by omega)), rfl⟩
    case round =>
      obtain ⟨k, hk, rfl, HK, rfl⟩ := hrel
      by_cases hlt : k < l.length
      · obtain ⟨b1, o1, y, rfl, hbb, hy, hcy⟩ := h.at_str hlt
        obtain ⟨b2, o2, x, e, _, hx, hcx⟩ := h.at_str (k := 0) (by omega)
        injection e with e
        injection e with e1 e2
        subst e1 e2
        simp only [Nat.add_zero] at hcx
        have hys := HS.out y (List.mem_of_getElem? hy)
        have hxs := HS.out x (List.mem_of_getElem? hx)
        have E := Lib.hid (okRow_at hx hy)
        have hl0 : 0 < l.length := by omega
        clear hx hy h
        rcases hg : (goodRow y && (y.size == x.size))
        · have e0 := Lib.hid (show okRow l k = false by rw [E.out, hg])
          have hg1 := Lib.hid hg
          clear hg
          go_wp2_with (first | (go_at_call 158; refine (impl_isRowOf hys).mono ?_; rw [hg1.out]; rintro e w' ⟨rfl, rfl⟩))
          go_ret
          refine ⟨ret_bool ?_, rfl⟩
          rw [HG.out, all_bad hlt e0.out]
        · have e0 := Lib.hid (show okRow l k = true by rw [E.out, hg])
          have hg1 := Lib.hid hg
          clear hg
          go_wp2_with (first | (go_at_call 158; refine (impl_isRowOf hys).mono ?_; rw [hg1.out]; rintro e w' ⟨rfl, rfl⟩))
          go_roundw
          case rel => exact ⟨k + 1, by omega, by go_num, Lib.hid (upto_succ HK.out e0.out), trivial⟩
          case measure => simp [intOf]; omega
      · obtain rfl : k = l.length := by omega
        go_wp2
        go_ret
        refine ⟨ret_bool ?_, rfl⟩
        rw [HG.out, all_good (fun j hj => HK.out j hj), decide_eq_true h8]
  · have e0 := Lib.hid (show goodRows l = false by rw [HG.out, decide_eq_false h8, Bool.and_false])
    go_in
    go_wp2
    go_ret
    exact ⟨ret_bool e0.out.symm, rfl⟩
set_option maxRecDepth 100000 in
theorem spec_l6Rows {A : Option Addr} {N c : Nat} {l : List ByteArray} {w : World} (hN : l.length = N) (h : Strs w A l) (hz : N ≤ 16777216) (hs : ∀ s ∈ l, s.size ≤ 16777216) :
    Calls Try.prog 106 #[.slice A N c] w fun e w' => e = .returned (.bool (goodRows l)) ∧ Below w.heap.size w w' := by
  subst hN
  have HG : Hid (goodRows l = ((List.range l.length).all (okRow l) && decide (l.length ≤ 800))) := Lib.hid rfl
  have HS := Lib.hid hs
  clear hs
  go_in
  go_wp2
  go_loopw [7] (fun i wr => ∃ k : Nat, k ≤ l.length ∧ i = .int .i64 k ∧ Hid (∀ j, j < k → okRow l j = true) ∧ Below w.heap.size w wr) (fun i _ => l.length - (intOf i).toNat)
  case atStart => exact ⟨0, Nat.zero_le _, rfl, Lib.hid (fun j hj => absurd hj (by omega)), Below.refl _ _⟩
  case round =>
    obtain ⟨k, hk, rfl, HK, hb⟩ := hrel
    by_cases hlt : k < l.length
    · have hr := h.below hb (Nat.le_refl _)
      obtain ⟨b1, o1, y, rfl, hbb, hy, hcy⟩ := hr.at_str hlt
      obtain ⟨b2, o2, x, e, _, hx, hcx0⟩ := hr.at_str (k := 0) (by omega)
      injection e with e
      injection e with e1 e2
      subst e1 e2
      simp only [Nat.add_zero] at hcx0
      have hys := HS.out y (List.mem_of_getElem? hy)
      have hxs := HS.out x (List.mem_of_getElem? hx)
      have E := Lib.hid (okRow_at hx hy)
      have hl0 : 0 < l.length := by omega
      clear hx hy h hr
      rcases hg : goodRow y
      · have e0 := Lib.hid (show okRow l k = false by rw [E.out, hg]; rfl)
        go_wp2_with (first | (go_at_call 155; refine (spec_l1Row hys).mono ?_; rintro e w1 ⟨rfl, hb1⟩))
        go_ret
        refine ⟨ret_bool ?_, below_go hb hb1⟩
        rw [HG.out, all_bad hlt e0.out]
      · rcases hq : (y.size == x.size)
        · have e0 := Lib.hid (show okRow l k = false by rw [E.out, hg, hq]; rfl)
          have hq1 : ((y.size : Int) != (x.size : Int)) = true := by
            have := beq_eq_false_iff_ne.1 hq
            exact bne_iff_ne.2 (by omega)
          clear hq
          go_wp2_with (first | (go_at_call 155; refine (spec_l1Row hys).mono ?_; rintro e w1 ⟨rfl, hb1⟩; have hcx := (hb1.cell (p := ⟨b1, o1, none⟩) hbb).trans hcx0))
          go_ret
          refine ⟨ret_bool ?_, below_go hb hb1⟩
          rw [HG.out, all_bad hlt e0.out]
        · have e0 := Lib.hid (show okRow l k = true by rw [E.out, hg, hq]; rfl)
          have hq1 : ((y.size : Int) != (x.size : Int)) = false := by
            have := beq_iff_eq.1 hq
            rw [bne_eq_false_iff_eq]; omega
          clear hq
          go_wp2_with (first | (go_at_call 155; refine (spec_l1Row hys).mono ?_; rintro e w1 ⟨rfl, hb1⟩; have hcx := (hb1.cell (p := ⟨b1, o1, none⟩) hbb).trans hcx0))
          go_roundw
          case rel => exact ⟨k + 1, by omega, by go_num, Lib.hid (upto_succ HK.out e0.out), below_go hb hb1⟩
          case measure => simp [intOf]; omega
    · obtain rfl : k = l.length := by omega
      go_wp2
      go_ret
      refine ⟨ret_bool ?_, hb⟩
      rw [HG.out, all_good (fun j hj => HK.out j hj)]
      exact decide_eq_decide.2 (by omega)
set_option maxRecDepth 100000 in
theorem impl_signs {A : Option Addr} {N c : Nat} {l : List ByteArray} {w : World} (hN : l.length = N) (h : Strs w A l) (hz : N ≤ 16777216) (hs : ∀ s ∈ l, s.size ≤ 16777216) :
    Calls Try.prog 84 #[.slice A N c] w fun e w' => ∃ A' c', e = .returned (.slice A' (l.map evenRow).length c') ∧
      Owned boolE 1 4 w' w.heap.size A' (l.map evenRow).length c' (l.map evenRow) ∧ Below w.heap.size w w' := by
  subst hN
  have HS := Lib.hid hs
  clear hs
  go_in
  go_wp2
  go_loopw [3, 9] (fun v i wr => ∃ (k : Nat) (A' : Option Addr) (m c' : Nat), k ≤ l.length ∧ i = .int .i64 k ∧ v = .slice A' m c' ∧ m = k ∧ Owned boolE 1 4 wr w.heap.size A' m c' ((l.map evenRow).take k) ∧ Below w.heap.size w wr) (fun _ i _ => l.length - (intOf i).toNat)
  case atStart => exact ⟨0, _, _, _, Nat.zero_le _, rfl, rfl, rfl, Owned.empty boolE_len _ _ (by simp), by (repeat' (first | (with_reducible exact Below.refl _ _) | (with_reducible assumption) | (with_reducible refine below_drewN ?_ _) | (with_reducible refine Below.drew ?_) | (with_reducible refine below_alloc ?_ _) | (with_reducible refine Below.alloc ?_ ?_ _) | (with_reducible refine Below.setCell ?_ ?_ _) | (with_reducible refine below_go ?_ (by with_reducible assumption)) | (with_reducible refine below_then (by with_reducible assumption) ?_ ?_) | go_size))⟩
  case round =>
    obtain ⟨k, A', m, c', hk, rfl, rfl, rfl, ho, hbl⟩ := hrel
    have HO := Lib.hid ho
    have hsz := hbl.size
    clear ho
    by_cases hlt : m < l.length
    · obtain ⟨b1, o1, y, rfl, hbb, hy, hcy⟩ := (h.below hbl (Nat.le_refl _)).at_str hlt
      have hys := HS.out y (List.mem_of_getElem? hy)
      have HT := Lib.hid (map_take_succ evenRow hy)
      clear hy h
      go_wp2_with (first | (go_at_call 128; refine (impl_even hys).mono ?_; rintro e w1 ⟨rfl, hb1⟩; have HO1 := Lib.hid (HO.out.up hb1); have hsz1 := hb1.size) | (at_builtin; go_must ((refine wpList_append_rec Try.elBool rfl (.tmp 13) (.tmp 16) rfl rfl (HO1.out.alloc _) (evenRow y) rfl (Box.at_ _ [.bool (evenRow y)] _ ?_) (boolE_one _) ?_ (by decide) ?_ ?_; (focus (first | omega | (simp only [World.size_alloc]; done) | (simp only [World.size_alloc]; omega) | (simp; done) | (simp; omega))); (focus (first | omega | (simp only [World.size_alloc]; done) | (simp only [World.size_alloc]; omega) | (simp; done) | (simp; omega))); (focus (first | omega | (simp only [World.size_alloc]; done) | (simp only [World.size_alloc]; omega) | (simp; done) | (simp; omega))); intro A2 c2 w2 ho2 hg2 hb2))))
      go_roundw
      case rel =>
        exact ⟨m + 1, A2, m + 1, c2, by omega, by go_num, by go_num, rfl, by rw [HT.out]; exact ho2, ((hbl.trans (hb1.mono hsz)).alloc (by omega) _).trans hb2⟩
      case measure => simp [intOf]; omega
    · obtain rfl : m = l.length := by omega
      have e1 := Lib.hid (show (l.map evenRow).take l.length = l.map evenRow by rw [List.take_of_length_le (by simp)])
      have hl : (l.map evenRow).length = l.length := by simp
      go_wp2
      go_ret
      rw [hl]
      refine ⟨_, _, rfl, ?_, hbl⟩
      have := HO.out
      rw [e1.out] at this
      exact this
set_option maxRecDepth 100000 in
theorem spec_SignsOf {A : Option Addr} {N c : Nat} {l : List ByteArray} {w : World} (hN : l.length = N) (h : Strs w A l) (hz : N ≤ 16777216) (hs : ∀ s ∈ l, s.size ≤ 16777216) :
    Calls Try.prog 125 #[.slice A N c] w fun e w' => ∃ A' c', e = .returned (.tuple #[.slice A' (signsR l).length c', .bool (goodRows l)]) ∧
      Owned boolE 1 4 w' w.heap.size A' (signsR l).length c' (signsR l) ∧ (signsR l).length ≤ 16777216 ∧ Below w.heap.size w w' := by
  rcases h1 : goodRows l
  · have e0 := Lib.hid (signsR_f h1)
    go_in
    go_wp2_with (first | (go_at_call 106; refine (spec_l6Rows hN h hz hs).mono ?_; rintro e w1 ⟨rfl, hb1⟩))
    go_ret2
    rw [e0.out]
    exact ⟨none, 0, rfl, Owned.nil boolE_len _ _ _, by decide, hb1⟩
  have e0 := Lib.hid (signsR_t h1)
  subst hN
  have HS := Lib.hid hs
  go_in
  go_wp2_with (first | (go_at_call 106; refine (spec_l6Rows rfl h hz hs).mono ?_; rintro e w1 ⟨rfl, hb1⟩; clear hs))
  go_loopw [4, 12] (fun v i wr => ∃ (k : Nat) (A' : Option Addr) (m c' : Nat), k ≤ l.length ∧ i = .int .i64 k ∧ v = .slice A' m c' ∧ m = k ∧ Owned boolE 1 4 wr w.heap.size A' m c' ((l.map evenRow).take k) ∧ Below w.heap.size w wr) (fun _ i _ => l.length - (intOf i).toNat)
  case atStart => exact ⟨0, none, 0, 0, Nat.zero_le _, rfl, rfl, rfl, Owned.nil boolE_len _ _ _, hb1⟩
  case round =>
    obtain ⟨k, A', m, c', hk, rfl, rfl, rfl, ho, hbl⟩ := hrel
    have HO := Lib.hid ho
    have hsz := hbl.size
    clear ho
    by_cases hlt : m < l.length
    · obtain ⟨b1, o1, y, rfl, hbb, hy, hcy⟩ := (h.below hbl (Nat.le_refl _)).at_str hlt
      have hys := HS.out y (List.mem_of_getElem? hy)
      have HT := Lib.hid (map_take_succ evenRow hy)
      clear hy h
      go_wp2_with (first | (go_at_call 168; refine (spec_l1Even hys).mono ?_; rintro e w1 ⟨rfl, hb1⟩; have HO1 := Lib.hid (HO.out.up hb1); have hsz1 := hb1.size) | (at_builtin; go_must ((refine wpList_append_rec Try.elBool rfl (.tmp 16) (.tmp 19) rfl rfl (HO1.out.alloc _) (evenRow y) rfl (Box.at_ _ [.bool (evenRow y)] _ ?_) (boolE_one _) ?_ (by decide) ?_ ?_; (focus (first | omega | (simp only [World.size_alloc]; done) | (simp only [World.size_alloc]; omega) | (simp; done) | (simp; omega))); (focus (first | omega | (simp only [World.size_alloc]; done) | (simp only [World.size_alloc]; omega) | (simp; done) | (simp; omega))); (focus (first | omega | (simp only [World.size_alloc]; done) | (simp only [World.size_alloc]; omega) | (simp; done) | (simp; omega))); intro A2 c2 w2 ho2 hg2 hb2))))
      go_roundw
      case rel =>
        exact ⟨m + 1, A2, m + 1, c2, by omega, by go_num, by go_num, rfl, by rw [HT.out]; exact ho2, ((hbl.trans (hb1.mono hsz)).alloc (by omega) _).trans hb2⟩
      case measure => simp [intOf]; omega
    · obtain rfl : m = l.length := by omega
      have e1 := Lib.hid (show (l.map evenRow).take l.length = signsR l by rw [e0.out, List.take_of_length_le (by simp)])
      have hl : (signsR l).length = l.length := by rw [e0.out]; simp
      go_wp2
      go_ret2
      rw [hl]
      refine ⟨_, _, rfl, ?_, by omega, hbl⟩
      have := HO.out
      rw [e1.out] at this
      exact this
end Go.Proofs.Ytmdmnjjlpefigaa
/- The walks through lists of changes between rows, truth by sorting, factorials, and extents. -/
namespace Go.Proofs.Ytmdmnjjlpefigaa
set_option linter.unusedVariables false
set_option linter.unusedSimpArgs false
open Go.ChangeShapes Go.WideShapes Go.ChangeAt Go.RowKit Go.Deep
theorem fact_le : ∀ k, k < 9 → fact k ≤ 40320 := of_decide_eq_true (by kernel_rfl)
theorem fact_one {n : Nat} (h : n ≤ 1) : fact n = 1 := by
  rcases n with _ | _ | n
  · rfl
  · rfl
  · omega
theorem impl_factorial {n : Nat} {w : World} (hn : n ≤ 8) :
    Calls Try.prog 62 #[.int .i64 n] w fun e w' => e = .returned (.int .i64 (fact n)) ∧ w = w' := by
  have HF : Hid (∀ k, fact (k + 1) = (k + 1) * fact k) := Lib.hid (fun _ => rfl)
  go_in
  go_wp2
  go_loopw [3, 4] (fun v i wr => ∃ (k q : Nat), 1 ≤ k ∧ (k ≤ n ∨ k = 1) ∧ i = .int .i64 (k + 1 : Nat) ∧ v = .int .i64 q ∧ q ≤ 40320 ∧ Hid (q = fact k) ∧ w = wr) (fun _ i _ => n + 2 - (intOf i).toNat)
  case atStart => exact ⟨1, 1, Nat.le_refl _, .inr rfl, rfl, rfl, by omega, Lib.hid rfl, rfl⟩
  case round =>
    obtain ⟨k, q, hk1, hk, rfl, rfl, hq, HQ, rfl⟩ := hrel
    by_cases hlt : k + 1 ≤ n
    · have hI : (k : Int) + 1 ≤ (n : Int) := by omega
      have h2 := Lib.hid (show q * (k + 1) = fact (k + 1) by rw [HF.out, HQ.out, Nat.mul_comm])
      have h3 : q * (k + 1) ≤ 40320 := by rw [h2.out]; exact fact_le _ (by omega)
      have h4 : ((q : Int) * ((k : Int) + 1)) = ((q * (k + 1) : Nat) : Int) := by rw [Int.natCast_mul]; rfl
      have h5 : 0 ≤ (q : Int) * ((k : Int) + 1) ∧ (q : Int) * ((k : Int) + 1) ≤ 40320 := by rw [h4]; omega
      have H4 := Lib.hid h4
      obtain ⟨h6, h7⟩ := h5
      clear h4
      go_wp2
      go_roundw
      case rel => exact ⟨k + 1, q * (k + 1), by omega, by omega, by go_num, by rw [H4.out], h3, Lib.hid h2.out, trivial⟩
      case measure => simp [intOf]; omega
    · have hI : ¬ (k : Int) + 1 ≤ (n : Int) := by omega
      have e1 := Lib.hid (show q = fact n by
        rw [HQ.out]
        rcases hk with hk | hk
        · rw [show k = n by omega]
        · rw [hk, fact_one (by omega : n ≤ 1)]; rfl)
      go_wp2
      go_ret
      rw [← e1.out]
      exact ⟨rfl, rfl⟩
theorem spec_l1Fact {n : Nat} {w : World} (hn : n ≤ 8) :
    Calls Try.prog 57 #[.int .i64 n] w fun e w' => e = .returned (.int .i64 (fact n)) ∧ w = w' := by
  have HF : Hid (∀ k, fact (k + 1) = (k + 1) * fact k) := Lib.hid (fun _ => rfl)
  have hfn := fact_le n (by omega)
  go_in
  go_wp2
  go_loopw [0, 3] (fun i v wr => ∃ (k q : Nat), k ≤ n ∧ i = .int .i64 k ∧ v = .int .i64 q ∧ q ≤ 40320 ∧ Hid (q * fact k = fact n) ∧ w = wr) (fun i _ _ => (intOf i).toNat)
  case atStart => exact ⟨n, 1, Nat.le_refl _, rfl, rfl, by omega, Lib.hid (Nat.one_mul _), rfl⟩
  case round =>
    obtain ⟨k, q, hk, rfl, rfl, hq, HQ, rfl⟩ := hrel
    by_cases hlt : 1 < k
    · obtain ⟨m, rfl⟩ : ∃ m, k = m + 1 := ⟨k - 1, by omega⟩
      have hI : (1 : Int) < (m : Int) + 1 := by omega
      have h2 := Lib.hid (show q * (m + 1) * fact m = fact n by rw [Nat.mul_assoc, ← HF.out, HQ.out])
      have h3 : q * (m + 1) ≤ 40320 := Nat.le_trans (Nat.le_mul_of_pos_right _ (fact_pos m)) (by rw [h2.out]; exact hfn)
      have h4 : ((q : Int) * ((m : Int) + 1)) = ((q * (m + 1) : Nat) : Int) := by rw [Int.natCast_mul]; rfl
      have h5 : 0 ≤ (q : Int) * ((m : Int) + 1) ∧ (q : Int) * ((m : Int) + 1) ≤ 40320 := by rw [h4]; omega
      have H4 := Lib.hid h4
      obtain ⟨h6, h7⟩ := h5
      clear h4
      go_wp2
      go_roundw
      case rel => exact ⟨m, q * (m + 1), by omega, by first | go_num | rfl, by rw [H4.out], h3, Lib.hid h2.out, trivial⟩
      case measure => simp [intOf]
    · have hI : ¬ (1 : Int) < (k : Int) := by omega
      have e1 := Lib.hid (show q = fact n by rw [← HQ.out, fact_one (by omega : k ≤ 1), Nat.mul_one])
      go_wp2
      go_ret
      rw [← e1.out]
      exact ⟨rfl, rfl⟩
set_option maxRecDepth 100000 in
theorem spec_l7True {A : Option Addr} {N c : Nat} {l : List ByteArray} {w : World} (hN : l.length = N) (h : Strs w A l) (hz : N ≤ 16000000) (hs : ∀ s ∈ l, s.size ≤ 16777216) :
    Calls Try.prog 58 #[.slice A N c] w fun e w' => e = .returned (.bool (nodupB l)) ∧ Below w.heap.size w w' := by
  go_in
  go_wp2_with fail
  refine (spec_l6Sort N A c l w hN h hz hs).mono ?_; rintro e w1 ⟨A1, c1, L, rfl, ho, hp, hS, hb1⟩
  have HE := Lib.hid (show nodupB l = true ↔ ∀ k, 1 ≤ k → k < L.length → nextEq L k = false by
    rw [nodupB, decide_eq_true_iff, ← hp.nodup_iff]; exact srt_nodup hS)
  have hL := ho.len
  subst hL
  clear hp hS hN h hs
  go_wp2
  go_loopw [4] (fun i wr => ∃ k : Nat, 1 ≤ k ∧ (k ≤ L.length ∨ k = 1) ∧ i = .int .i64 k ∧ Hid (∀ j, 1 ≤ j → j < k → nextEq L j = false) ∧ Below w1.heap.size w1 wr) (fun i _ => L.length - (intOf i).toNat)
  case atStart => exact ⟨1, Nat.le_refl _, .inr rfl, rfl, Lib.hid (fun j h1 h2 => absurd h1 (by omega)), Below.refl _ _⟩
  case round =>
    obtain ⟨k, hk0, hk, rfl, HK, hb⟩ := hrel
    by_cases hlt : k < L.length
    · obtain ⟨q, rfl⟩ : ∃ q, k = q + 1 := ⟨k - 1, by omega⟩
      obtain ⟨b3, o3, y, rfl, _, hy, hcy⟩ := (ho.up hb).recs.at_str hlt
      obtain ⟨b4, o4, x, e, _, hx, hcx⟩ := (ho.up hb).recs.at_str (k := q) (by omega)
      injection e with e
      injection e with e1 e2
      subst e1 e2
      have HX := Lib.hid (nextEq_at (k := q + 1) hx hy)
      have hw1 := wrap_id (x := (q : Int) + 1 - 1) (by omega)
      have hw2 : (q : Int) + 1 - 1 = (q : Int) := by omega
      have hw3 := wrap_id (x := (q : Int)) (by omega)
      clear hx hy ho
      by_cases hxy : y = x
      · have e1 := Lib.hid (show nodupB l = false by
          rcases hq : nodupB l
          · rfl
          · have := HE.out.1 hq (q + 1) (by omega) hlt
            rw [HX.out, decide_eq_true hxy] at this; cases this)
        have e2 : (y.toList == x.toList) = true := by rw [hxy]; simp
        clear hxy
        go_wp2
        go_quiet (fail)
        clear hw1 hw2 hw3
        go_wp2
        go_ret
        rw [e1.out]
        exact ⟨rfl, by (repeat' (first | (with_reducible exact Below.refl _ _) | (with_reducible assumption) | (with_reducible refine below_drewN ?_ _) | (with_reducible refine Below.drew ?_) | (with_reducible refine below_alloc ?_ _) | (with_reducible refine Below.alloc ?_ ?_ _) | (with_reducible refine Below.setCell ?_ ?_ _) | (with_reducible refine below_go ?_ (by with_reducible assumption)) | (with_reducible refine below_then (by with_reducible assumption) ?_ ?_) | go_size))⟩
      · have e2 : (y.toList == x.toList) = false := by
          rw [beq_eq_false_iff_ne]; exact fun q => hxy (toList_inj q)
        have HN := Lib.hid (show nextEq L (q + 1) = false by rw [HX.out, decide_eq_false hxy])
        clear hxy
        go_wp2
        go_quiet (fail)
        clear hw1 hw2 hw3
        go_wp2
        go_roundw
        case rel => exact ⟨q + 2, by omega, by omega, by go_num, Lib.hid (fun j h1 h2 => by
          rcases Nat.lt_succ_iff_lt_or_eq.1 h2 with h | rfl
          · exact HK.out j h1 h
          · exact HN.out), by (repeat' (first | (with_reducible exact Below.refl _ _) | (with_reducible assumption) | (with_reducible refine below_drewN ?_ _) | (with_reducible refine Below.drew ?_) | (with_reducible refine below_alloc ?_ _) | (with_reducible refine Below.alloc ?_ ?_ _) | (with_reducible refine Below.setCell ?_ ?_ _) | (with_reducible refine below_go ?_ (by with_reducible assumption)) | (with_reducible refine below_then (by with_reducible assumption) ?_ ?_) | go_size))⟩
        case measure => simp [intOf]; omega
    · have e1 := Lib.hid (show nodupB l = true from HE.out.2 (fun j h1 h2 => HK.out j h1 (by omega)))
      go_wp2
      go_ret
      rw [e1.out]
      exact ⟨rfl, below_go hb1 hb⟩
/-- Row k of a list of rows, cyclically. -/
def cyc (l : List ByteArray) (k : Nat) : ByteArray := l.getD (k % l.length) ByteArray.empty
def nextAt (l : List ByteArray) (k : Nat) : Bool := btwB (cyc l k) (cyc l (k + 1))
def nextsB (l : List ByteArray) : Bool := (List.range l.length).all (nextAt l)
theorem cyc_at {l : List ByteArray} {k : Nat} {x : ByteArray} (h : l[k]? = some x) : cyc l k = x := by
  have := (List.getElem?_eq_some_iff.1 h).1
  rw [cyc, Nat.mod_eq_of_lt this, List.getD, h]; rfl
theorem cyc_last {l : List ByteArray} {x : ByteArray} (h : l[0]? = some x) : cyc l l.length = x := by
  rw [cyc, Nat.mod_self, List.getD, h]; rfl
theorem btw_self (a : ByteArray) : ∀ (k i : Nat) (sw : Bool), btwK a a k i sw = sw
  | 0, _, _ => by rw [btwK]
  | k + 1, i, sw => by rw [btw_eq rfl, btw_self a k]
theorem nexts_one {l : List ByteArray} (h : l.length = 1) : nextsB l = false := by
  match l, h with
  | [x], _ =>
    show (List.all [0] (nextAt [x])) = false
    simp [nextAt, cyc, btwB, btw_self]
theorem goodRows_size {l : List ByteArray} (h : goodRows l = true) {i j : Nat} {x y : ByteArray} (hx : l[i]? = some x) (hy : l[j]? = some y) : x.size = y.size := by
  rw [goodRows, Bool.and_eq_true, List.all_eq_true] at h
  have key : ∀ (k : Nat) (z : ByteArray), l[k]? = some z → z.size = (l.getD 0 ByteArray.empty).size := fun k z hz => by
    have := h.1 k (List.mem_range.2 (List.getElem?_eq_some_iff.1 hz).1)
    rw [okRow, Bool.and_eq_true, List.getD, hz] at this
    simpa using this.2
  rw [key i x hx, key j y hy]
set_option maxHeartbeats 1000000 in
set_option maxRecDepth 100000 in
theorem impl_changesIn {A : Option Addr} {N c : Nat} {l : List ByteArray} {w : World} (hN : l.length = N) (h : Strs w A l) (hz : 0 < N) (hg : goodRows l = true) :
    Calls Try.prog 60 #[.slice A N c] w fun e w' => ∃ A' m c', e = .returned (.tuple #[.slice A' m c', .bool (nextsB l)]) ∧ Below w.heap.size w w' := by
  subst hN
  have h8 := goodRows_len hg
  have HG := Lib.hid (goodRows_mem hg)
  have HZ := Lib.hid (fun (i j : Nat) (x y : ByteArray) (hx : l[i]? = some x) (hy : l[j]? = some y) => goodRows_size hg hx hy)
  have HQ : Hid (nextsB l = (List.range l.length).all (nextAt l)) := Lib.hid rfl
  clear hg
  by_cases h1 : l.length < 2
  · have e1 := Lib.hid (nexts_one (l := l) (by omega))
    go_in
    go_wp2
    go_ret2
    rw [e1.out]
    exact ⟨_, _, _, rfl, Below.refl _ _⟩
  · go_in
    go_wp2
    go_loopw [4, 15] (fun v i wr => ∃ (k : Nat) (A' : Option Addr) (c' : Nat) (M : List ByteArray), k ≤ l.length ∧ i = .int .i64 k ∧ v = .slice A' k c' ∧ Hid (∀ j, j < k → nextAt l j = true) ∧ Hid (Owned strE 1 9 wr w.heap.size A' k c' M) ∧ Below w.heap.size w wr) (fun _ i _ => l.length - (intOf i).toNat)
    case atStart => exact ⟨0, _, _, [], Nat.zero_le _, rfl, rfl, Lib.hid (fun j hj => absurd hj (by omega)), Lib.hid (Owned.empty strE_len _ _ (Nat.le_refl _)), by (repeat' (first | (with_reducible exact Below.refl _ _) | (with_reducible assumption) | (with_reducible refine below_drewN ?_ _) | (with_reducible refine Below.drew ?_) | (with_reducible refine below_alloc ?_ _) | (with_reducible refine Below.alloc ?_ ?_ _) | (with_reducible refine Below.setCell ?_ ?_ _) | (with_reducible refine below_go ?_ (by with_reducible assumption)) | (with_reducible refine below_then (by with_reducible assumption) ?_ ?_) | go_size))⟩
    case round =>
      obtain ⟨k, A', c', M, hk, rfl, rfl, HK, HO, hb⟩ := hrel
      have hsz := hb.size
      by_cases hlt : k < l.length
      · obtain ⟨b3, o3, x, rfl, hbb, hx, hcx⟩ := (h.below hb (Nat.le_refl _)).at_str hlt
        have hxg := HG.out x (List.mem_of_getElem? hx)
        have hxn := goodRow_n hxg
        obtain ⟨q, hq1, hq2⟩ : ∃ q, q < l.length ∧ (((k : Int) + 1) % (l.length : Int) = (q : Int) ∧ cyc l (k + 1) = l.getD q ByteArray.empty) := by
          refine ⟨(k + 1) % l.length, Nat.mod_lt _ (by omega), ?_, rfl⟩
          rw [Int.natCast_emod]; rfl
        obtain ⟨b4, o4, y, e, _, hy, hcy⟩ := (h.below hb (Nat.le_refl _)).at_str hq1
        injection e with e
        injection e with e1 e2
        subst e1 e2
        have hyg := HG.out y (List.mem_of_getElem? hy)
        have hsy := HZ.out k q x y hx hy
        have E := Lib.hid (show nextAt l k = btwB x y by rw [nextAt, cyc_at hx, hq2.2, List.getD, hy]; rfl)
        have hm := hq2.1
        have hm2 : ((k : Int) + 1).tmod (l.length : Int) = (q : Int) := by rw [Int.tmod_eq_emod_of_nonneg (by omega)]; exact hm
        have HC := Lib.hid (fun (u : World) => impl_between (a := x) (b := y) (n := x.size) (w := u) rfl hsy.symm hxn.2)
        clear hx hy h hq2 hsy
        go_wp2_with fail
        refine (HC.out _).mono ?_; rintro e w3 ⟨s, rfl, hs, hb3⟩
        clear hm hm2
        rcases hbt : btwB x y
        · have e1 := Lib.hid (show nextsB l = false by rw [HQ.out]; exact all_no hlt (by rw [E.out, hbt]))
          go_wp2
          go_ret2
          rw [e1.out]
          exact ⟨_, _, _, rfl, below_go hb hb3⟩
        · have e1 := Lib.hid (show nextAt l k = true by rw [E.out, hbt])
          have HO3 := Lib.hid (HO.out.up hb3)
          have hsz3 := hb3.size
          have hbt3 := below_go hb hb3
          go_wp2_with (first | (at_builtin; go_must ((refine wpList_append_rec Try.elStr rfl (.tmp 35) (.tmp 37) rfl rfl (HO3.out.alloc _) s rfl (Box.at_ _ [.string s] _ ?_) (strE_one _) ?_ (by decide) ?_ ?_; (focus (first | omega | (simp only [World.size_alloc]; done) | (simp only [World.size_alloc]; omega) | (simp; done) | (simp; omega))); (focus (first | omega | (simp only [World.size_alloc]; done) | (simp only [World.size_alloc]; omega) | (simp; done) | (simp; omega))); (focus (first | omega | (simp only [World.size_alloc]; done) | (simp only [World.size_alloc]; omega) | (simp; done) | (simp; omega))); intro A4 c4 w4 ho4 hg4 hb4))))
          go_roundw
          case rel => exact ⟨k + 1, A4, c4, _, by omega, by go_num, by go_num, Lib.hid (upto_succ HK.out e1.out), Lib.hid ho4, (hbt3.alloc (by omega) _).trans hb4⟩
          case measure => simp [intOf]; omega
      · obtain rfl : k = l.length := by omega
        have e1 := Lib.hid (show nextsB l = true by rw [HQ.out]; exact all_yes (fun j hj => HK.out j hj))
        go_wp2
        go_ret2
        rw [e1.out]
        exact ⟨_, _, _, rfl, hb⟩
set_option maxHeartbeats 1000000 in
set_option maxRecDepth 100000 in
theorem spec_l7Changes {A : Option Addr} {N c : Nat} {l : List ByteArray} {w : World} (hN : l.length = N) (h : Strs w A l) (hz : 0 < N) (hg : goodRows l = true) :
    Calls Try.prog 56 #[.slice A N c] w fun e w' => ∃ A' m c', e = .returned (.tuple #[.slice A' m c', .bool (nextsB l)]) ∧ Below w.heap.size w w' := by
  subst hN
  have h8 := goodRows_len hg
  have HG := Lib.hid (goodRows_mem hg)
  have HZ := Lib.hid (fun (i j : Nat) (x y : ByteArray) (hx : l[i]? = some x) (hy : l[j]? = some y) => goodRows_size hg hx hy)
  have HQ : Hid (nextsB l = (List.range l.length).all (nextAt l)) := Lib.hid rfl
  clear hg
  go_in
  go_wp2
  go_loopw [4, 11] (fun v i wr => ∃ (k : Nat) (A' : Option Addr) (c' : Nat) (M : List ByteArray), k ≤ l.length ∧ i = .int .i64 k ∧ v = .slice A' k c' ∧ Hid (∀ j, j < k → nextAt l j = true) ∧ Hid (Owned strE 1 9 wr w.heap.size A' k c' M) ∧ Below w.heap.size w wr) (fun _ i _ => l.length - (intOf i).toNat)
  case atStart => exact ⟨0, _, _, [], Nat.zero_le _, rfl, rfl, Lib.hid (fun j hj => absurd hj (by omega)), Lib.hid (Owned.nil strE_len _ _ _), Below.refl _ _⟩
  case round =>
    obtain ⟨k, A', c', M, hk, rfl, rfl, HK, HO, hb⟩ := hrel
    have hsz := hb.size
    by_cases hlt : k < l.length
    · obtain ⟨b3, o3, x, rfl, hbb, hx, hcx⟩ := (h.below hb (Nat.le_refl _)).at_str hlt
      have hxg := HG.out x (List.mem_of_getElem? hx)
      have hxn := goodRow_n hxg
      obtain ⟨q, hq1, hq2⟩ : ∃ q, q < l.length ∧ (((k : Int) + 1) % (l.length : Int) = (q : Int) ∧ cyc l (k + 1) = l.getD q ByteArray.empty) := by
        refine ⟨(k + 1) % l.length, Nat.mod_lt _ (by omega), ?_, rfl⟩
        rw [Int.natCast_emod]; rfl
      obtain ⟨b4, o4, y, e, _, hy, hcy⟩ := (h.below hb (Nat.le_refl _)).at_str hq1
      injection e with e
      injection e with e1 e2
      subst e1 e2
      have hyg := HG.out y (List.mem_of_getElem? hy)
      have hsy := HZ.out k q x y hx hy
      have E := Lib.hid (show nextAt l k = btwB x y by rw [nextAt, cyc_at hx, hq2.2, List.getD, hy]; rfl)
      have hm := hq2.1
      have hm2 : ((k : Int) + 1).tmod (l.length : Int) = (q : Int) := by rw [Int.tmod_eq_emod_of_nonneg (by omega)]; exact hm
      have HC := Lib.hid (fun (u : World) => spec_BetweenRows (a := x) (b := y) (w := u) hxg hyg hsy)
      clear hx hy h hq2 hsy
      go_wp2_with fail
      refine (HC.out _).mono ?_; rintro e w3 ⟨s, rfl, hs, hb3⟩
      clear hm hm2
      rcases hbt : btwB x y
      · have e1 := Lib.hid (show nextsB l = false by rw [HQ.out]; exact all_no hlt (by rw [E.out, hbt]))
        go_wp2
        go_ret2
        rw [e1.out]
        exact ⟨_, _, _, rfl, below_go hb hb3⟩
      · have e1 := Lib.hid (show nextAt l k = true by rw [E.out, hbt])
        have HO3 := Lib.hid (HO.out.up hb3)
        have hsz3 := hb3.size
        have hbt3 := below_go hb hb3
        go_wp2_with (first | (at_builtin; go_must ((refine wpList_append_rec Try.elStr rfl (.tmp 31) (.tmp 33) rfl rfl (HO3.out.alloc _) s rfl (Box.at_ _ [.string s] _ ?_) (strE_one _) ?_ (by decide) ?_ ?_; (focus (first | omega | (simp only [World.size_alloc]; done) | (simp only [World.size_alloc]; omega) | (simp; done) | (simp; omega))); (focus (first | omega | (simp only [World.size_alloc]; done) | (simp only [World.size_alloc]; omega) | (simp; done) | (simp; omega))); (focus (first | omega | (simp only [World.size_alloc]; done) | (simp only [World.size_alloc]; omega) | (simp; done) | (simp; omega))); intro A4 c4 w4 ho4 hg4 hb4))))
        go_roundw
        case rel => exact ⟨k + 1, A4, c4, _, by omega, by go_num, by go_num, Lib.hid (upto_succ HK.out e1.out), Lib.hid ho4, (hbt3.alloc (by omega) _).trans hb4⟩
        case measure => simp [intOf]; omega
    · obtain rfl : k = l.length := by omega
      have e1 := Lib.hid (show nextsB l = true by rw [HQ.out]; exact all_yes (fun j hj => HK.out j hj))
      have hI : (0 : Int) < (l.length : Int) := by omega
      go_wp2
      go_ret2
      rw [e1.out]
      exact ⟨A', l.length, c', by simp [hz], hb⟩
/-! extents -/
def smallR (l : List ByteArray) : Bool := goodRows l && (decide (0 < l.length) && decide ((l.getD 0 ByteArray.empty).size ≤ 6))
def extR (l : List ByteArray) : Bool := smallR l && (nextsB l && (nodupB l && (l.length == fact (l.getD 0 ByteArray.empty).size)))
theorem impl_countable {A : Option Addr} {N c : Nat} {l : List ByteArray} {w : World} (hN : l.length = N) (h : Strs w A l) (hz : N ≤ 16000000) (hs : ∀ s ∈ l, s.size ≤ 16777216) :
    Calls Try.prog 59 #[.slice A N c] w fun e w' => e = .returned (.bool (smallR l)) ∧ w = w' := by
  subst hN
  have E : Hid (smallR l = (goodRows l && (decide (0 < l.length) && decide ((l.getD 0 ByteArray.empty).size ≤ 6)))) := Lib.hid rfl
  rcases hg : goodRows l
  · have e1 := Lib.hid (show smallR l = false by rw [E.out, hg]; rfl)
    go_in
    go_wp2_with fail
    refine (impl_GoodRows rfl h (by omega) hs).mono ?_; rw [hg]; rintro e w' ⟨rfl, rfl⟩
    go_wp2
    go_ret
    rw [e1.out]
    exact ⟨rfl, rfl⟩
  · by_cases h0 : 0 < l.length
    · obtain ⟨b, o, x, rfl, _, hx, hc⟩ := h.at_str (k := 0) h0
      have e1 := Lib.hid (show smallR l = decide (x.size ≤ 6) by rw [E.out, hg, decide_eq_true h0, List.getD, hx]; rfl)
      simp only [Nat.add_zero] at hc
      clear hx
      go_in
      go_wp2_with fail
      refine (impl_GoodRows rfl h (by omega) hs).mono ?_; rw [hg]; rintro e w' ⟨rfl, rfl⟩
      go_wp2
      go_ret
      exact ⟨ret_bool (by rw [e1.out]; exact decide_eq_decide.2 (by omega)), rfl⟩
    · have e1 := Lib.hid (show smallR l = false by rw [E.out, hg, decide_eq_false h0]; rfl)
      have hI : ¬ (0 : Int) < (l.length : Int) := by omega
      go_in
      go_wp2_with fail
      refine (impl_GoodRows rfl h (by omega) hs).mono ?_; rw [hg]; rintro e w' ⟨rfl, rfl⟩
      go_wp2
      go_ret
      rw [e1.out]
      exact ⟨rfl, rfl⟩
theorem spec_l7Small {A : Option Addr} {N c : Nat} {l : List ByteArray} {w : World} (hN : l.length = N) (h : Strs w A l) (hz : N ≤ 16000000) (hs : ∀ s ∈ l, s.size ≤ 16777216) :
    Calls Try.prog 55 #[.slice A N c] w fun e w' => e = .returned (.bool (smallR l)) ∧ Below w.heap.size w w' := by
  subst hN
  have E : Hid (smallR l = (goodRows l && (decide (0 < l.length) && decide ((l.getD 0 ByteArray.empty).size ≤ 6)))) := Lib.hid rfl
  rcases hg : goodRows l
  · have e1 := Lib.hid (show smallR l = false by rw [E.out, hg]; rfl)
    go_in
    go_wp2_with fail
    refine (spec_l6Rows rfl h (by omega) hs).mono ?_; rw [hg]; rintro e w1 ⟨rfl, hb1⟩
    go_wp2
    go_ret
    rw [e1.out]
    exact ⟨rfl, hb1⟩
  · by_cases h0 : 0 < l.length
    · obtain ⟨b, o, x, rfl, hbb, hx, hc⟩ := h.at_str (k := 0) h0
      have e1 := Lib.hid (show smallR l = decide (x.size ≤ 6) by rw [E.out, hg, decide_eq_true h0, List.getD, hx]; rfl)
      simp only [Nat.add_zero] at hc
      clear hx
      go_in
      go_wp2_with fail
      refine (spec_l6Rows rfl h (by omega) hs).mono ?_; rw [hg]; rintro e w1 ⟨rfl, hb1⟩
      have hc1 := (hb1.cell (p := ⟨b, o, none⟩) hbb).trans hc
      go_wp2
      go_ret
      exact ⟨ret_bool (by rw [e1.out]; exact decide_eq_decide.2 (by omega)), hb1⟩
    · have e1 := Lib.hid (show smallR l = false by rw [E.out, hg, decide_eq_false h0]; rfl)
      have hI : ¬ (0 : Int) < (l.length : Int) := by omega
      go_in
      go_wp2_with fail
      refine (spec_l6Rows rfl h (by omega) hs).mono ?_; rw [hg]; rintro e w1 ⟨rfl, hb1⟩
      go_wp2
      go_ret
      rw [e1.out]
      exact ⟨rfl, hb1⟩
theorem small_t {l : List ByteArray} (h : smallR l = true) : goodRows l = true ∧ 0 < l.length ∧ ∀ x, l[0]? = some x → x.size ≤ 6 := by
  simp only [smallR, Bool.and_eq_true, decide_eq_true_eq] at h
  exact ⟨h.1, h.2.1, fun x hx => by have := h.2.2; rw [List.getD, hx] at this; exact this⟩
set_option maxHeartbeats 1000000 in
theorem impl_IsExtent {A : Option Addr} {N c : Nat} {l : List ByteArray} {w : World} (hN : l.length = N) (h : Strs w A l) (hz : N ≤ 16000000) (hs : ∀ s ∈ l, s.size ≤ 16777216) :
    Calls Try.prog 17 #[.slice A N c] w fun e w' => e = .returned (.tuple #[.bool (extR l), .bool (smallR l)]) ∧ Below w.heap.size w w' := by
  subst hN
  have E : Hid (extR l = (smallR l && (nextsB l && (nodupB l && (l.length == fact (l.getD 0 ByteArray.empty).size))))) := Lib.hid rfl
  rcases hS : smallR l
  · have e1 := Lib.hid (show extR l = false by rw [E.out, hS]; rfl)
    go_in
    go_wp2_with fail
    refine (impl_countable rfl h hz hs).mono ?_; rw [hS]; rintro e w' ⟨rfl, rfl⟩
    go_wp2
    go_ret2
    rw [e1.out]
    exact ⟨rfl, Below.refl _ _⟩
  · obtain ⟨hg, h0, h6⟩ := small_t hS
    obtain ⟨b, o, x, e0, hbb, hx, hc⟩ := h.at_str (k := 0) h0
    subst e0
    have hx6 := h6 x hx
    simp only [Nat.add_zero] at hc
    have e1 := Lib.hid (show extR l = (nextsB l && (nodupB l && (l.length == fact x.size))) by rw [E.out, hS, List.getD, hx]; rfl)
    have HG := Lib.hid hg
    have hsz := Lib.hid hs
    clear hg h6 hx hs
    go_in
    go_wp2_with fail
    refine (impl_countable rfl h hz hsz.out).mono ?_; rw [hS]; rintro e w' ⟨rfl, rfl⟩
    go_wp2_with fail
    refine (impl_changesIn rfl h h0 HG.out).mono ?_; rintro e w1 ⟨A1, m1, c1, rfl, hb1⟩
    have hc1 := (hb1.cell (p := ⟨b, o, none⟩) hbb).trans hc
    rcases hn : nextsB l
    · have e2 := Lib.hid (show extR l = false by rw [e1.out, hn]; rfl)
      go_wp2
      go_ret2
      rw [e2.out]
      exact ⟨rfl, hb1⟩
    · go_wp2_with fail
      refine (impl_isTrue rfl (h.up hb1) hz hsz.out).mono ?_; rintro e w2 ⟨rfl, hb2⟩
      have hc2 := (hb2.cell (p := ⟨b, o, none⟩) (by have := hb1.size; show b < w1.heap.size; omega)).trans hc1
      rcases hd : nodupB l
      · have e2 := Lib.hid (show extR l = false by rw [e1.out, hn, hd]; rfl)
        go_wp2
        go_ret2
        rw [e2.out]
        exact ⟨rfl, below_go hb1 hb2⟩
      · have e2 := Lib.hid (show extR l = (l.length == fact x.size) by rw [e1.out, hn, hd]; rfl)
        go_wp2_with fail
        refine (impl_factorial (by omega)).mono ?_; rintro e w' ⟨rfl, rfl⟩
        rcases hf : (l.length == fact x.size)
        · have hI : ((l.length : Int) == (fact x.size : Int)) = false := by
            rw [beq_eq_false_iff_ne] at hf ⊢; omega
          have e3 := Lib.hid (e2.out.trans hf)
          clear hf
          go_wp2
          go_ret2
          rw [e3.out]
          exact ⟨rfl, below_go hb1 hb2⟩
        · have hI : ((l.length : Int) == (fact x.size : Int)) = true := by
            rw [beq_iff_eq] at hf ⊢; omega
          have e3 := Lib.hid (e2.out.trans hf)
          clear hf
          go_wp2
          go_ret2
          rw [e3.out]
          exact ⟨rfl, below_go hb1 hb2⟩
set_option maxHeartbeats 1000000 in
theorem spec_IsExtent {A : Option Addr} {N c : Nat} {l : List ByteArray} {w : World} (hN : l.length = N) (h : Strs w A l) (hz : N ≤ 16000000) (hs : ∀ s ∈ l, s.size ≤ 16777216) :
    Calls Try.prog 15 #[.slice A N c] w fun e w' => e = .returned (.tuple #[.bool (extR l), .bool (smallR l)]) ∧ Below w.heap.size w w' := by
  subst hN
  have E : Hid (extR l = (smallR l && (nextsB l && (nodupB l && (l.length == fact (l.getD 0 ByteArray.empty).size))))) := Lib.hid rfl
  rcases hS : smallR l
  · have e1 := Lib.hid (show extR l = false by rw [E.out, hS]; rfl)
    go_in
    go_wp2_with fail
    refine (spec_l7Small rfl h hz hs).mono ?_; rw [hS]; rintro e w1 ⟨rfl, hb1⟩
    go_wp2
    go_ret2
    rw [e1.out]
    exact ⟨rfl, hb1⟩
  · obtain ⟨hg, h0, h6⟩ := small_t hS
    obtain ⟨b, o, x, e0, hbb, hx, hc⟩ := h.at_str (k := 0) h0
    subst e0
    have hx6 := h6 x hx
    simp only [Nat.add_zero] at hc
    have e1 := Lib.hid (show extR l = (nextsB l && (nodupB l && (l.length == fact x.size))) by rw [E.out, hS, List.getD, hx]; rfl)
    have HG := Lib.hid hg
    have hsz := Lib.hid hs
    clear hg h6 hx hs
    go_in
    go_wp2_with fail
    refine (spec_l7Small rfl h hz hsz.out).mono ?_; rw [hS]; rintro e w0 ⟨rfl, hb0⟩
    have hbb0 : b < w0.heap.size := by have := hb0.size; omega
    have hc0 := (hb0.cell (p := ⟨b, o, none⟩) hbb).trans hc
    go_wp2_with fail
    refine (spec_l7Changes rfl (h.up hb0) h0 HG.out).mono ?_; rintro e w1 ⟨A1, m1, c1, rfl, hb1⟩
    have hB1 := below_go hb0 hb1
    have hc1 := (hb1.cell (p := ⟨b, o, none⟩) hbb0).trans hc0
    go_wp2_with fail
    refine (spec_l1Fact (by omega)).mono ?_; rintro e w' ⟨rfl, rfl⟩
    rcases hf : (l.length == fact x.size)
    · have hI : ((l.length : Int) == (fact x.size : Int)) = false := by
        rw [beq_eq_false_iff_ne] at hf ⊢; omega
      have e3 := Lib.hid (show extR l = false by rw [e1.out, hf]; rcases nextsB l <;> rcases nodupB l <;> rfl)
      clear hf
      go_wp2
      go_ret2
      rw [e3.out]
      exact ⟨rfl, hB1⟩
    · have hI : ((l.length : Int) == (fact x.size : Int)) = true := by
        rw [beq_iff_eq] at hf ⊢; omega
      have e3 := Lib.hid (show extR l = (nextsB l && nodupB l) by rw [e1.out, hf, Bool.and_true])
      clear hf
      go_wp2_with fail
      refine (spec_l7True rfl (h.up hB1) hz hsz.out).mono ?_; rintro e w2 ⟨rfl, hb2⟩
      have hB2 := below_go hB1 hb2
      rcases hd : nodupB l <;> rcases hn : nextsB l
      all_goals
        have e4 := Lib.hid e3.out
        rw [hd, hn] at e4
        go_wp2
        go_ret2
        rw [e4.out]
        exact ⟨rfl, hB2⟩
end Go.Proofs.Ytmdmnjjlpefigaa
/- The walks through closures: the group that some rows generate, both sides. -/
namespace Go.Proofs.Ytmdmnjjlpefigaa
set_option linter.unusedVariables false
set_option linter.unusedSimpArgs false
open Go.ChangeShapes Go.WideShapes Go.ChangeAt Go.RowKit Go.Deep
open Go.Maps (Keyed string_keyed)
open Go.WideMaps (keyOf_string_mk)
theorem pre_at {α : Type} {l m : List α} {k : Nat} {x : α} (h : l <+: m) (hx : l[k]? = some x) : m[k]? = some x := by
  obtain ⟨t, rfl⟩ := h
  rw [List.getElem?_append_left (List.getElem?_eq_some_iff.1 hx).1]; exact hx
theorem pre_len {α : Type} {l m : List α} (h : l <+: m) : l.length ≤ m.length := h.length_le
theorem own_lit1_at' {α : Type} {e : α → List Value} {s : Nat} (he : ∀ x, (e x).length = s) (w : World) (E : TypeId) (x : α) {b base : Nat} (h : b = w.heap.size) (hb : base ≤ w.heap.size) : Owned e s E (w.alloc (.cells ⟨e x⟩ E)) base (some ⟨b, 0, none⟩) 1 1 [x] := by
  subst h
  exact ⟨he, rfl, by simpa using World.ownsRow_lit (e := E) (base := base) (size := s) w ⟨e x⟩ 1 hb (by unfold maxLen; omega) (by simp [he])⟩
theorem wpList_set_ins {P : Program} {ops : Array Oper} {rest : List Oper} {o : Oper} {a : Act} {Q : Exit → Act → World → Prop} {W : World} (hgd : o.guard = none) (M X V : Operand) (t : TypeId) (hop : o.op = Op.insert t M X V)
    {k e : TypeId} (K : Keyed P k) (ht : P.underlying t = some (.map k e)) (he : P.underlying e = some .bool) {b n : Nat} {S : List Value} (hm : a.eval M = .map (some b)) (h : SetOf P W k e b n S) (hn : n ≤ 16777216) {key : Value} (hx : a.eval X = key) (hv : a.eval V = .bool true)
    {kl : Lit} (hkey : keyOf P k key = some kl) (hK : ∀ w', SetOf P w' k e b (n + 1) (key :: S) → W.grownBy w' (some b) → wpList P ops Q rest (a.put o.dst undef) w') : wpList P ops Q (o :: rest) a W := by
  obtain ⟨D, h1, h2⟩ := h
  obtain ⟨w', hrun, hown, hg⟩ := h1.update K ht (by unfold maxLen; omega) hkey (plainElem_bool he true)
  refine wpList_plain hgd fun K' hK' => ?_
  unfold Oper.wp
  simp [execOp, hop, hm, hx, hv, hrun, Result.andThen]
  refine hK' _ _ (hK w' ⟨_, hown, fun key' kl' hk' => ?_⟩ hg)
  by_cases ek : kl' = kl
  · subst ek
    have e1 : key' = key := K.inj hk' hkey
    subst e1
    rw [Maps.atKey_put_same h1.isMap (K.key hkey)]
    exact ⟨fun _ => rfl, fun hne => absurd (List.mem_cons_self ..) hne⟩
  · have e1 : key' ≠ key := fun e2 => ek (by rw [e2, hkey] at hk'; injection hk' with hk'; exact hk'.symm)
    rw [Maps.atKey_put_other ek]
    obtain ⟨a1, a2⟩ := h2 key' kl' hk'
    refine ⟨fun hi => a1 ?_, fun hi => a2 (fun hc => hi (List.mem_cons_of_mem _ hc))⟩
    rcases List.mem_cons.1 hi with hi | hi
    · exact absurd hi e1
    · exact hi
/-- The keys of a set of texts. -/
def keysS (L : List ByteArray) : List Value := (L.map strV).reverse
theorem keysS_mem {s : ByteArray} {L : List ByteArray} : strV s ∈ keysS L ↔ s ∈ L := by rw [keysS, List.mem_reverse, strV_mem]
theorem keysS_snoc (L : List ByteArray) (s : ByteArray) : keysS (L ++ [s]) = strV s :: keysS L := by rw [keysS, keysS, List.map_append, List.reverse_append]; rfl
set_option maxHeartbeats 1000000 in
set_option maxRecDepth 100000 in
theorem impl_generated {A : Option Addr} {N c n most : Nat} {gs : List ByteArray} {w : World} (hN : gs.length = N) (h : Strs w A gs) (hz : N ≤ 16777216) (h3 : 3 ≤ n) (h8 : n ≤ 8) (hg : ∀ g ∈ gs, RowN n g) (hm : 1 ≤ most) (hm2 : most ≤ 1000000) :
    Calls Try.prog 78 #[.int .i64 n, .slice A N c, .int .i64 most] w fun e w' => ∃ A' m' c', e = .returned (.tuple #[.slice A' m' c', .bool (decide ((clF n gs).length ≤ most))]) ∧ ((clF n gs).length ≤ most → m' = (clF n gs).length ∧ ∃ L, Owned strE 1 9 w' w.heap.size A' m' c' L ∧ L.Perm (clF n gs) ∧ Srt L) ∧ (¬ (clF n gs).length ≤ most → A' = none ∧ m' = 0 ∧ c' = 0) ∧ Below w.heap.size w w' := by
  subst hN
  have hmm := @run_makeMap Try.prog
  have KS := string_keyed (P := Try.prog) (k := 9) Try.underlying9
  have HG := Lib.hid hg
  have hr := rowN_rounds h3 h8
  have h40 : fact n ≤ 40320 := fact_le8 h8
  have HOK := Lib.hid (fun k => clAt_ok hr hg k)
  have HPF := Lib.hid (fun k x (hx : (clAt gs (roundsS n) k)[k]? = some x) j (hj : j ≤ gs.length) => clPart_F h3 h8 hg hx hj)
  have HEND := Lib.hid (fun k (hk : (clAt gs (roundsS n) k).length = k) => clF_end h3 h8 hg hk)
  have HLE := Lib.hid (fun k => (clAt_ok hr hg k).le)
  have hkr := keyOf_string_mk (P := Try.prog) (k := 9) Try.underlying9 (s := roundsS n) (by rw [hr.2]; unfold maxLen; omega)
  have HKR := Lib.hid hkr
  clear hg hkr
  have HM0 := Lib.hid (SetOf.made Try.prog w 9 4)
  go_in
  go_wp2_with (first | (go_at_call 68; refine (impl_rounds h8).mono ?_; rintro e w' ⟨rfl, rfl⟩) | (refine wpList_set_ins rfl (.tmp 14) (.tmp 16) (.const (.bool true)) 86 rfl KS Try.underlying86 Try.underlying4 rfl HM0.out ?_ (key := strV (roundsS n)) rfl rfl HKR.out ?_; (focus (first | omega | (simp only [World.size_alloc]; done) | (simp only [World.size_alloc]; omega) | (simp; done) | (simp; omega))); intro w1 hm1 hg1; have hb1 : Below w.heap.size w w1 := (((Below.refl _ _).alloc (Nat.le_refl _) (.map #[] 0)).grown hg1 (by simp) (fun k hk => by injection hk with hk; omega)); have hw1 : w.heap.size + 1 ≤ w1.heap.size := (by have := hg1.size; simp at this; omega)))
  clear hmm HM0
  have HM1 := Lib.hid (show SetOf Try.prog (w1.alloc (.cells #[.string (roundsS n)] 9)) 9 4 w.heap.size 1 (keysS (clAt gs (roundsS n) 0)) from (hm1.alloc _))
  clear hm1 hg1
  go_loopw [9, 10] (fun v i wr => ∃ (k : Nat) (A' : Option Addr) (c' : Nat), k ≤ (clAt gs (roundsS n) k).length ∧ (clAt gs (roundsS n) k).length ≤ most ∧ i = .int .i64 k ∧ v = .slice A' (clAt gs (roundsS n) k).length c' ∧ Hid (SetOf Try.prog wr 9 4 w.heap.size (clAt gs (roundsS n) k).length (keysS (clAt gs (roundsS n) k))) ∧ Hid (Owned strE 1 9 wr (w.heap.size + 1) A' (clAt gs (roundsS n) k).length c' (clAt gs (roundsS n) k)) ∧ Below w.heap.size w wr) (fun _ i _ => fact n - (intOf i).toNat)
  case atStart => exact ⟨0, some ⟨w1.heap.size, 0, none⟩, 1, Nat.zero_le _, hm, rfl, rfl, HM1, Lib.hid (own_lit1_at' strE_len w1 9 (roundsS n) rfl hw1), by (repeat' (first | (with_reducible exact Below.refl _ _) | (with_reducible assumption) | (with_reducible refine below_drewN ?_ _) | (with_reducible refine Below.drew ?_) | (with_reducible refine below_alloc ?_ _) | (with_reducible refine Below.alloc ?_ ?_ _) | (with_reducible refine Below.setCell ?_ ?_ _) | (with_reducible refine below_go ?_ (by with_reducible assumption)) | (with_reducible refine below_then (by with_reducible assumption) ?_ ?_) | go_size))⟩
  case round =>
    obtain ⟨k, A1, c1, hk, hkm, rfl, rfl, HM, HO, hb⟩ := hrel
    rename World => w2
    have hle := HLE.out k
    have hle1 := HLE.out (k + 1)
    by_cases hlt : k < (clAt gs (roundsS n) k).length
    · obtain ⟨x, hx⟩ := some_of_lt hlt
      have HX := Lib.hid hx
      have hxN := (HOK.out k).2 x (List.mem_of_getElem? hx)
      have HP := Lib.hid (fun j (hj : j ≤ gs.length) => HPF.out k x hx j hj)
      have HNX := Lib.hid (clAt_more (gs := gs) (r := roundsS n) hx)
      have HPO := Lib.hid (fun j => (HOK.out k).part hxN HG.out j)
      clear hx
      go_wp2
      go_loopw [9, 29] (fun v i wr => ∃ (j : Nat) (A' : Option Addr) (c' : Nat), j ≤ gs.length ∧ (clPart gs x j (clAt gs (roundsS n) k)).length ≤ most ∧ i = .int .i64 j ∧ v = .slice A' (clPart gs x j (clAt gs (roundsS n) k)).length c' ∧ Hid (SetOf Try.prog wr 9 4 w.heap.size (clPart gs x j (clAt gs (roundsS n) k)).length (keysS (clPart gs x j (clAt gs (roundsS n) k)))) ∧ Hid (Owned strE 1 9 wr (w.heap.size + 1) A' (clPart gs x j (clAt gs (roundsS n) k)).length c' (clPart gs x j (clAt gs (roundsS n) k))) ∧ Below w.heap.size w wr) (fun _ i _ => gs.length - (intOf i).toNat)
      case atStart => exact ⟨0, A1, c1, Nat.zero_le _, hkm, rfl, rfl, HM, HO, hb⟩
      case round =>
        clear HM HO hb
        obtain ⟨j, A1, c1, hj, hjm, rfl, rfl, HM, HO, hb⟩ := hrel
        rename World => w3
        have hlen := (HPO.out j).le
        have hpl := pre_len (clPart_pre gs x j (clAt gs (roundsS n) k))
        by_cases hjl : j < gs.length
        · obtain ⟨b1, o1, g, rfl, hbb, hgj, hcg0⟩ := h.at_str hjl
          have hcg := (hb.cell (p := ⟨b1, o1 + j, none⟩) hbb).trans hcg0
          obtain ⟨b2, rfl, hb2lo, _, gc, _⟩ := HO.out.at_ (by omega)
          have hcx := gc k x 0 _ (pre_at (clPart_pre gs x j (clAt gs (roundsS n) k)) HX.out) rfl
          simp only [Nat.mul_one, Nat.add_zero] at hcx
          have hgN := HG.out g (List.mem_of_getElem? hgj)
          have hft := rowN_fits hxN hgN
          have hxs : x.size ≤ 16777216 := by rw [hxN.2]; omega
          have hgz : g.size ≤ 16777216 := by rw [hgN.2]; omega
          have hrN := hxN.times hgN
          have HS := Lib.hid (clPart_succ (x := x) (clAt gs (roundsS n) k) hgj)
          obtain ⟨r, hr'⟩ : ∃ r, r = timesS x g := ⟨_, rfl⟩
          have HRD := Lib.hid hr'
          have hkey := keyOf_string_mk (P := Try.prog) (k := 9) Try.underlying9 (s := r) (by rw [hr', hrN.2]; unfold maxLen; omega)
          have HKEY := Lib.hid hkey
          clear gc hgj hcg0 hkey hr'
          go_wp2_with fail
          refine (impl_times hxs hgz hft).mono ?_; rw [← HRD.out]; rintro e w4 ⟨rfl, hb4⟩
          clear hcx hcg hft
          have hB4 := below_go hb hb4
          have HM4 := Lib.hid (HM.out.up hb4)
          have HO4 := Lib.hid (HO.out.up hb4)
          have lk := HM4.out.look (t := 86) KS Try.underlying86 Try.underlying4 (by kernel_rfl) HKEY.out
          have mem : strV r ∈ keysS (clPart gs x j (clAt gs (roundsS n) k)) ↔ r ∈ clPart gs x j (clAt gs (roundsS n) k) := keysS_mem
          by_cases hin : r ∈ clPart gs x j (clAt gs (roundsS n) k)
          · have lk1 := lk.1 (mem.2 hin)
            have e1 := Lib.hid (show clPart gs x (j + 1) (clAt gs (roundsS n) k) = clPart gs x j (clAt gs (roundsS n) k) by rw [HS.out, clAdd_in (by rw [← HRD.out]; exact hin)])
            clear lk mem hin
            go_wp2
            go_roundw
            case rel => exact ⟨j + 1, _, _, by omega, by rw [e1.out]; exact hjm, by go_num, by rw [e1.out], Lib.hid (by rw [e1.out]; exact HM4.out), Lib.hid (by rw [e1.out]; exact HO4.out), hB4⟩
            case measure => simp [intOf]; omega
          · have lk1 := lk.2 (fun q => hin (mem.1 q))
            have e1 := Lib.hid (show clPart gs x (j + 1) (clAt gs (roundsS n) k) = clPart gs x j (clAt gs (roundsS n) k) ++ [r] by rw [HS.out, clAdd_new (by rw [← HRD.out]; exact hin), ← HRD.out])
            have hl1 := pre_len (HP.out (j + 1) (by omega))
            rw [e1.out, List.length_append, List.length_singleton] at hl1
            clear lk mem hin
            by_cases hmost : (clPart gs x j (clAt gs (roundsS n) k)).length = most
            · have hq : ((clPart gs x j (clAt gs (roundsS n) k)).length : Int) = (most : Int) := by omega
              have hno := Lib.hid (show ¬ (clF n gs).length ≤ most by omega)
              have hdec := Lib.hid (decide_eq_false hno.out)
              clear hmost
              go_wp2
              go_ret2
              rw [hdec.out]
              exact ⟨none, 0, 0, rfl, fun q => absurd q hno.out, fun _ => ⟨rfl, rfl, rfl⟩, hB4⟩
            · have hq : ¬ ((clPart gs x j (clAt gs (roundsS n) k)).length : Int) = (most : Int) := by omega
              have hno : b2 ≠ w.heap.size := by omega
              have hs4 := hb4.size
              have el : (clPart gs x j (clAt gs (roundsS n) k) ++ [r]).length = (clPart gs x j (clAt gs (roundsS n) k)).length + 1 := by simp
              have EL := Lib.hid el
              have hlm : (clPart gs x j (clAt gs (roundsS n) k)).length + 1 ≤ most := by omega
              clear hmost el
              go_wp2_with (first | (at_mapUpdate; go_must ((refine wpList_set_add rfl (.tmp 46) (.tmp 47) (.const (.bool true)) 86 rfl KS Try.underlying86 Try.underlying4 rfl HM4.out ?_ (key := strV r) rfl rfl HKEY.out ?_; (focus (first | omega | (simp only [World.size_alloc]; done) | (simp only [World.size_alloc]; omega) | (simp; done) | (simp; omega))); intro w5 hm5 hg5; have HO5 := Lib.hid (HO4.out.past hg5 (Nat.lt_succ_self _)); have hs5 := hg5.size))) | (at_builtin; go_must ((refine wpList_append_recs Try.elStr strE_one rfl (.tmp 48) (.tmp 50) rfl rfl (HO5.out.alloc _) rfl (own_lit1_at' strE_len w5 9 r rfl (Nat.le_refl _)).recs rfl ?_ (by decide) ?_ ?_; (focus (first | omega | (simp only [World.size_alloc]; done) | (simp only [World.size_alloc]; omega) | (simp; done) | (simp; omega))); (focus (first | omega | (simp only [World.size_alloc]; done) | (simp only [World.size_alloc]; omega) | (simp; done) | (simp; omega))); intro A3 c3 w6 ho6 hg6 hl6))))
              have hm6 := (hm5.alloc (.cells #[.string r] 9)).kept hg6 (fun e => by injection e with e; exact hno e.symm)
              have hb6 : Below w.heap.size w w6 := ((hB4.grown hg5 hB4.size (fun k hk => by injection hk with hk; omega)).alloc (by omega) _).trans (grown_base hg6 (by simp; omega) (fun k hk => by injection hk with hk; dsimp only at hk; omega))
              go_roundw
              case rel => exact ⟨j + 1, A3, c3, by omega, by rw [e1.out, EL.out]; omega, by go_num, by rw [e1.out, EL.out], Lib.hid (by rw [e1.out, EL.out, keysS_snoc]; exact hm6), Lib.hid (by rw [e1.out, EL.out]; exact ho6), hb6⟩
              case measure => simp [intOf]; omega
        · obtain rfl : j = gs.length := by omega
          have e1 := Lib.hid HNX.out.symm
          go_wp2
          go_roundw
          case rel => exact ⟨k + 1, A1, c1, by rw [HNX.out]; omega, by rw [HNX.out]; exact hjm, by go_num, by rw [HNX.out], Lib.hid (by rw [HNX.out]; exact HM.out), Lib.hid (by rw [HNX.out]; exact HO.out), hb⟩
          case measure => simp [intOf]; omega
    · have hke : (clAt gs (roundsS n) k).length = k := by omega
      have e1 := Lib.hid (HEND.out k hke)
      have hkp : 0 < (clAt gs (roundsS n) k).length := clAt_pos k
      obtain ⟨b2, rfl, hb2lo, hb2hi, _, _⟩ := HO.out.at_ hkp
      clear hke
      go_wp2_with fail
      refine (sort_strs HO.out (by omega)).mono ?_; rintro e w3 ⟨rfl, L, hoL, hpL, hsL, hg3⟩
      have hb3 : Below w.heap.size w w3 := hb.grown hg3 hb.size (fun k hk => by injection hk with hk; omega)
      go_wp2
      go_ret2
      rw [e1.out, decide_eq_true hkm]
      exact ⟨_, _, _, rfl, fun _ => ⟨rfl, L, hoL.base_le (Nat.le_succ _), hpL, hsL⟩, fun q => absurd hkm q, hb3⟩
end Go.Proofs.Ytmdmnjjlpefigaa
/- The walks of chapter 17: the program's search of a row, a row's powers, its Q-set. -/
namespace Go.Proofs.Ytmdmnjjlpefigaa
set_option linter.unusedVariables false
set_option linter.unusedSimpArgs false
open Go.ChangeShapes Go.WideShapes Go.ChangeAt Go.RowKit Go.Deep
theorem first_false (f : Nat → Bool) : ∀ n, f n = false → ∃ k, k ≤ n ∧ (∀ t, t < k → f t = true) ∧ f k = false
  | 0, h => ⟨0, Nat.le_refl _, fun t ht => absurd ht (by omega), h⟩
  | n + 1, h => by
    by_cases hb : ∃ k, k ≤ n ∧ f k = false
    · obtain ⟨j, hj, hf⟩ := hb
      obtain ⟨k, hk, h1, h2⟩ := first_false (fun t => if t < j then f t else false) n (by simp [show ¬ n < j by omega])
      by_cases hkj : k < j
      · refine ⟨k, by omega, fun t ht => ?_, by simpa [hkj] using h2⟩
        have := h1 t ht
        simpa [show t < j by omega] using this
      · refine ⟨j, by omega, fun t ht => ?_, hf⟩
        have := h1 t (by omega)
        simpa [ht] using this
    · refine ⟨n + 1, Nat.le_refl _, fun t ht => ?_, h⟩
      rcases hc : f t with _ | _
      · exact absurd ⟨t, by omega, hc⟩ hb
      · rfl
theorem srt_le {l : List ByteArray} (h : Srt l) {i j : Nat} {x y : ByteArray} (hij : i < j) (hx : l[i]? = some x) (hy : l[j]? = some y) : less y x = false := by
  obtain ⟨h1, e1⟩ := List.getElem?_eq_some_iff.1 hx
  obtain ⟨h2, e2⟩ := List.getElem?_eq_some_iff.1 hy
  have := (List.pairwise_iff_getElem.1 h) i j h1 h2 hij
  rw [e1, e2, leS] at this
  rcases hc : less y x with _ | _
  · rfl
  · rw [hc] at this; cases this
theorem search_in {l : List ByteArray} {s : ByteArray} (h : Srt l) : decide (Lib.bsGo (fun t => less (l.getD t s) s) l.length 0 l.length < l.length ∧ l.getD (Lib.bsGo (fun t => less (l.getD t s) s) l.length 0 l.length) s = s) = inL l s := by
  have hout : ∀ t, l.length ≤ t → less (l.getD t s) s = false := fun t ht => by rw [List.getD, List.getElem?_eq_none ht]; exact less_irr s
  obtain ⟨k, hk, h1, h2⟩ := first_false (fun t => less (l.getD t s) s) l.length (hout _ (Nat.le_refl _))
  have h3 : ∀ t, k ≤ t → less (l.getD t s) s = false := fun t ht => by
    rcases Nat.lt_or_ge t l.length with hl | hl
    · rcases Nat.lt_or_ge k t with hkt | hkt
      · rcases hc : less (l.getD t s) s with _ | _
        · rfl
        · have hy := List.getElem?_eq_getElem hl
          have hx := List.getElem?_eq_getElem (show k < l.length by omega)
          have hle := srt_le h hkt hx hy
          have e1 : l.getD k s = l[k] := by rw [List.getD, hx]; rfl
          have e2 : l.getD t s = l[t] := by rw [List.getD, hy]; rfl
          rw [e1] at h2
          rw [e2] at hc
          rcases less_tri l[k] l[t] with h4 | h4 | h4
          · have := less_trans h4 hc
            rw [h2] at this; cases this
          · rw [h4, hc] at h2; cases h2
          · rw [hle] at h4; cases h4
      · obtain rfl : t = k := by omega
        exact h2
    · exact hout t hl
  rw [Lib.bsGo_spec _ k h1 h3 l.length 0 l.length (by omega) (by omega) hk]
  rw [Bool.eq_iff_iff, decide_eq_true_iff, inL_iff]
  constructor
  · rintro ⟨hl, e⟩
    rw [List.getD, List.getElem?_eq_getElem hl] at e
    rw [← e]; exact List.getElem_mem hl
  · intro hm
    obtain ⟨j, hj⟩ := List.getElem?_of_mem hm
    have hjl := (List.getElem?_eq_some_iff.1 hj).1
    have hkj : k ≤ j := by
      rcases Nat.lt_or_ge j k with hc | hc
      · have := h1 j hc
        rw [List.getD, hj] at this
        have h5 : less s s = true := this
        rw [less_irr] at h5; cases h5
      · exact hc
    refine ⟨by omega, ?_⟩
    rcases Nat.lt_or_ge k j with hc | hc
    · have hx := List.getElem?_eq_getElem (show k < l.length by omega)
      have hle := srt_le h hc hx hj
      have e1 : l.getD k s = l[k] := by rw [List.getD, hx]; rfl
      rw [e1] at h2 ⊢
      rcases less_tri l[k] s with h4 | h4 | h4
      · rw [h2] at h4; cases h4
      · exact h4
      · rw [hle] at h4; cases h4
    · obtain rfl : j = k := by omega
      rw [List.getD, hj]; rfl
theorem search_strs {A : Option Addr} {N c : Nat} {l : List ByteArray} {s : ByteArray} {w : World} (hN : l.length = N) (h : Strs w A l) (hz : N ≤ 16777216) (hs : Srt l) :
    Calls Try.prog 154 #[.slice A N c, .string s] w fun e w' => ∃ i : Int, e = .returned (.tuple #[.int .i64 i, .bool (inL l s)]) ∧ ∃ q, w' = w.drewN q := by
  subst hN
  rcases Nat.eq_zero_or_pos l.length with h0 | h0
  · have e := List.eq_nil_of_length_eq_zero h0
    subst e
    refine (Try.slices_BinarySearch_string_empty A c s w).mono ?_
    rintro e w' ⟨rfl, rfl⟩
    exact ⟨0, rfl, 0, rfl⟩
  · obtain ⟨b, o, y, rfl, _, _, _⟩ := h.at_str h0
    refine (Try.slices_BinarySearch_string b o l.length c (fun t => l.getD t s) s w (by omega) (fun j hj => ?_)).mono ?_
    · obtain ⟨b2, o2, x, e, _, hx, hcx⟩ := h.at_str hj
      injection e with e
      injection e with e1 e2
      subst e1 e2
      rw [hcx, List.getD, hx]; rfl
    · rintro e w' ⟨rfl, hq⟩
      have hin := search_in (s := s) hs
      rw [← hin]
      exact ⟨_, rfl, hq⟩
theorem impl_has {A : Option Addr} {N c : Nat} {l : List ByteArray} {s : ByteArray} {w : World} (hN : l.length = N) (h : Strs w A l) (hz : N ≤ 16777216) (hs : Srt l) :
    Calls Try.prog 104 #[.slice A N c, .string s] w fun e w' => e = .returned (.bool (inL l s)) ∧ Below w.heap.size w w' := by
  go_in
  go_wp2_with fail
  refine (search_strs hN h hz hs).mono ?_; rintro e w1 ⟨i, rfl, q, rfl⟩
  go_wp2
  go_ret
  exact ⟨rfl, by (repeat' (first | (with_reducible exact Below.refl _ _) | (with_reducible assumption) | (with_reducible refine below_drewN ?_ _) | (with_reducible refine Below.drew ?_) | (with_reducible refine below_alloc ?_ _) | (with_reducible refine Below.alloc ?_ ?_ _) | (with_reducible refine Below.setCell ?_ ?_ _) | (with_reducible refine below_go ?_ (by with_reducible assumption)) | (with_reducible refine below_then (by with_reducible assumption) ?_ ?_) | go_size))⟩
set_option maxHeartbeats 1000000 in
set_option maxRecDepth 100000 in
theorem impl_powers {a : ByteArray} {n : Nat} {w : World} (hg : RowN n a) :
    Calls Try.prog 206 #[.string a] w fun e w' => ∃ m A' c', e = .returned (.slice A' m c') ∧ 1 ≤ m ∧ m ≤ 40320 ∧ pwS n a m = roundsS n ∧ Owned strE 1 9 w' w.heap.size A' m c' (pwL n a m) ∧ Below w.heap.size w w' := by
  obtain ⟨h3, h8⟩ := hg.st
  have h40 : fact n ≤ 40320 := fact_le8 h8
  have hsz := hg.2
  have HG := Lib.hid hg
  have ha16 : a.size ≤ 16777216 := by omega
  clear hg
  go_in
  go_wp2_with (first | (go_at_call 68; refine (impl_rounds h8).mono ?_; rintro e w' ⟨rfl, rfl⟩))
  have ho0 := Lib.hid (own_lit1_at' strE_len w 9 (roundsS n) rfl (Nat.le_refl _))
  go_loopw [3, 4] (fun v p wr => ∃ (k : Nat) (A' : Option Addr) (c' : Nat), 1 ≤ k ∧ v = .slice A' k c' ∧ p = .string (pwS n a k) ∧ Hid (∀ j, 1 ≤ j → j < k → pwS n a j ≠ roundsS n) ∧ Hid (Owned strE 1 9 wr w.heap.size A' k c' (pwL n a k)) ∧ Below w.heap.size w wr) (fun v _ _ => 40321 - slLen v)
  case atStart => exact ⟨1, _, _, Nat.le_refl _, rfl, by rw [pw_one HG.out], Lib.hid (fun j h1 h2 => absurd h1 (by omega)), ho0, by (repeat' (first | (with_reducible exact Below.refl _ _) | (with_reducible assumption) | (with_reducible refine below_drewN ?_ _) | (with_reducible refine Below.drew ?_) | (with_reducible refine below_alloc ?_ _) | (with_reducible refine Below.alloc ?_ ?_ _) | (with_reducible refine Below.setCell ?_ ?_ _) | (with_reducible refine below_go ?_ (by with_reducible assumption)) | (with_reducible refine below_then (by with_reducible assumption) ?_ ?_) | go_size))⟩
  case round =>
    obtain ⟨k, A1, c1, hk, rfl, rfl, HK, HO, hb⟩ := hrel
    have hle : k ≤ 40320 := Nat.le_trans (pwL_le HG.out HK.out) h40
    obtain ⟨b1, rfl, hb1lo, _, gc, _⟩ := HO.out.at_ (by omega)
    have hc0 := gc 0 (roundsS n) 0 _ (by rw [pwL, List.getElem?_map, List.getElem?_range (by omega)]; rfl) rfl
    simp only [Nat.zero_mul, Nat.add_zero] at hc0
    have hpN := pw_row HG.out k
    have HPS := Lib.hid (show pwS n a (k + 1) = timesS (pwS n a k) a from rfl)
    have HLS := Lib.hid (pwL_succ n a k)
    have hft := rowN_fits hpN HG.out
    obtain ⟨p, hp⟩ : ∃ p, p = pwS n a k := ⟨_, rfl⟩
    have HP := Lib.hid hp
    rw [← hp] at hpN hft
    rw [← hp]
    have hps : p.size ≤ 16777216 := by rw [hpN.2]; omega
    clear gc
    by_cases he : p = roundsS n
    · have HE := Lib.hid (show pwS n a k = roundsS n by rw [← hp, he])
      have hbe : (p.toList == (roundsS n).toList) = true := by rw [he]; simp
      clear hp he
      go_wp2
      go_ret
      exact ⟨k, _, _, rfl, hk, hle, HE.out, HO.out, hb⟩
    · have hbe := bytes_ne he
      have HK2 := Lib.hid (show ∀ j, 1 ≤ j → j < k + 1 → pwS n a j ≠ roundsS n from fun j h1 h2 => by
        rcases Nat.lt_or_ge j k with h4 | h4
        · exact HK.out j h1 h4
        · obtain rfl : j = k := by omega
          rw [← hp]; exact he)
      have hle2 : k + 1 ≤ 40320 := Nat.le_trans (pwL_le HG.out HK2.out) h40
      clear hp he
      have hszr := hb.size
      go_wp2_with (first | (at_builtin; go_must ((refine wpList_append_recs Try.elStr strE_one rfl (.tmp 18) (.tmp 20) rfl rfl (HO.out.alloc _) rfl (own_lit1_at' strE_len _ 9 p rfl (Nat.le_refl _)).recs rfl ?_ (by decide) ?_ ?_; (focus (first | omega | (simp only [World.size_alloc]; done) | (simp only [World.size_alloc]; omega) | (simp; done) | (simp; omega))); (focus (first | omega | (simp only [World.size_alloc]; done) | (simp only [World.size_alloc]; omega) | (simp; done) | (simp; omega))); intro A3 c3 w6 ho6 hg6 hl6))) | (go_at_call 122; refine (impl_times hps ha16 hft).mono ?_; rintro e w7 ⟨rfl, hb7⟩))
      have hb6 : Below w.heap.size w w6 := (hb.alloc hszr _).trans (grown_base hg6 (by simp; omega) (fun k hk => by injection hk with hk; dsimp only at hk; omega))
      go_roundw
      case rel => exact ⟨k + 1, A3, c3, by omega, rfl, by rw [HPS.out, HP.out], HK2, Lib.hid (by rw [HLS.out, ← HP.out]; exact ho6.up hb7), below_go hb6 hb7⟩
      case measure => simp [slLen]; omega
end Go.Proofs.Ytmdmnjjlpefigaa
/- The walks of chapter 17: sorted, leftTimes, setOf. -/
namespace Go.Proofs.Ytmdmnjjlpefigaa
set_option linter.unusedVariables false
set_option linter.unusedSimpArgs false
open Go.ChangeShapes Go.WideShapes Go.ChangeAt Go.RowKit Go.Deep
set_option maxRecDepth 100000 in
theorem clone_strs {a : Addr} {N c : Nat} {l : List ByteArray} {w : World} (hN : l.length = N) (h : Strs w (some a) l) (hz : N ≤ 16000000) :
    Calls Try.prog 214 #[.slice (some a) N c] w fun e w' => ∃ A' c', e = .returned (.slice A' N c') ∧ Owned strE 1 9 w' w.heap.size A' N c' l ∧ Below w.heap.size w w' := by
  have q22 : ∀ (w : World) (a : Option Addr) (n c n' c' : Nat), (binOp .eql 22 (.slice a n c) (.slice none n' c')).run Try.prog w = .ok (.bool a.isNone) w := fun w a n c n' c' => Lib.run_eql_slice_nil w _ _ a n c n' c' Try.underlying22
  go_in
  go_wp2_with (first | (at_builtin; go_must ((refine wpList_append_recs Try.elStr strE_one rfl (.tmp 5) (.tmp 6) rfl rfl (Owned.empty (E := 9) strE_len w (Nat.le_refl _)) rfl (h.up (by (repeat' (first | (with_reducible exact Below.refl _ _) | (with_reducible assumption) | (with_reducible refine below_drewN ?_ _) | (with_reducible refine Below.drew ?_) | (with_reducible refine below_alloc ?_ _) | (with_reducible refine Below.alloc ?_ ?_ _) | (with_reducible refine Below.setCell ?_ ?_ _) | (with_reducible refine below_go ?_ (by with_reducible assumption)) | (with_reducible refine below_then (by with_reducible assumption) ?_ ?_) | go_size)))) hN ?_ (by decide) ?_ ?_; (focus (first | omega | (simp only [World.size_alloc]; done) | (simp only [World.size_alloc]; omega) | (simp; done) | (simp; omega))); (focus (first | omega | (simp only [World.size_alloc]; done) | (simp only [World.size_alloc]; omega) | (simp; done) | (simp; omega))); intro A2 c2 w2 ho2 hg2 hl2))))
  go_ret
  have hb := lit_app hg2
  rw [Nat.zero_add, List.nil_append] at ho2
  exact ⟨_, _, rfl, ho2, hb⟩
set_option maxRecDepth 100000 in
theorem impl_sorted {a : Addr} {N c : Nat} {l : List ByteArray} {w : World} (hN : l.length = N) (h : Strs w (some a) l) (hz : N ≤ 16000000) (h1 : 1 ≤ N) :
    Calls Try.prog 204 #[.slice (some a) N c] w fun e w' => ∃ A' c' L, e = .returned (.slice A' N c') ∧ L.Perm l ∧ Owned strE 1 9 w' w.heap.size A' N c' L ∧ Below w.heap.size w w' := by
  go_in
  go_wp2_with fail
  refine (clone_strs hN h hz).mono ?_; rintro e w1 ⟨A1, c1, rfl, ho, hb⟩
  have HO := Lib.hid ho
  obtain ⟨g, rfl, hg1, hg2, _, _⟩ := ho.at_ (by omega)
  clear ho
  go_wp2_with fail
  refine (sort_strs HO.out (by omega)).mono ?_; rintro e w2 ⟨rfl, L, hoL, hp, _, hgr⟩
  have hb2 : Below w.heap.size w w2 := hb.grown hgr hb.size (fun k hk => by injection hk with hk; omega)
  go_wp2
  go_ret
  exact ⟨_, _, L, rfl, hp, hoL, hb2⟩
set_option maxRecDepth 100000 in
theorem impl_leftTimes {A : Option Addr} {N c n : Nat} {l : List ByteArray} {a : ByteArray} {w : World} (hN : l.length = N) (h : Strs w A l) (hz : N ≤ 1000000) (ha : RowN n a) (hl : ∀ s ∈ l, RowN n s) :
    Calls Try.prog 205 #[.string a, .slice A N c] w fun e w' => ∃ A' c', e = .returned (.slice A' N c') ∧ Owned strE 1 9 w' w.heap.size A' N c' (l.map (timesS a)) ∧ Below w.heap.size w w' := by
  subst hN
  have hst := ha.st
  have HA := Lib.hid ha
  have HL := Lib.hid hl
  have ha16 : a.size ≤ 16777216 := by rw [ha.2]; omega
  have HE : Hid (Owned strE 1 9 (w.alloc (.cells #[] 9)) w.heap.size (some ⟨w.heap.size, 0, none⟩) 0 0 ((l.take 0).map (timesS a))) := Lib.hid (Owned.empty (E := 9) strE_len w (Nat.le_refl _))
  clear ha hl
  go_in
  go_wp2
  go_loopw [5, 11] (fun v i wr => ∃ (k : Nat) (A' : Option Addr) (c' : Nat), k ≤ l.length ∧ i = .int .i64 k ∧ v = .slice A' k c' ∧ Hid (Owned strE 1 9 wr w.heap.size A' k c' ((l.take k).map (timesS a))) ∧ Below w.heap.size w wr) (fun _ i _ => l.length - (intOf i).toNat)
  case atStart => exact ⟨0, _, _, Nat.zero_le _, rfl, rfl, HE, by (repeat' (first | (with_reducible exact Below.refl _ _) | (with_reducible assumption) | (with_reducible refine below_drewN ?_ _) | (with_reducible refine Below.drew ?_) | (with_reducible refine below_alloc ?_ _) | (with_reducible refine Below.alloc ?_ ?_ _) | (with_reducible refine Below.setCell ?_ ?_ _) | (with_reducible refine below_go ?_ (by with_reducible assumption)) | (with_reducible refine below_then (by with_reducible assumption) ?_ ?_) | go_size))⟩
  case round =>
    obtain ⟨k, A1, c1, hk, rfl, rfl, HO, hb⟩ := hrel
    have hsz := hb.size
    by_cases hlt : k < l.length
    · obtain ⟨b3, o3, y, rfl, hbb, hy, hcy⟩ := (h.below hb (Nat.le_refl _)).at_str hlt
      have hyN := HL.out y (List.mem_of_getElem? hy)
      have hft := rowN_fits HA.out hyN
      have hys : y.size ≤ 16777216 := by rw [hyN.2]; omega
      have HT := Lib.hid (show (l.take (k + 1)).map (timesS a) = (l.take k).map (timesS a) ++ [timesS a y] by rw [take_succ_some hy, List.map_append]; rfl)
      clear hy hyN
      go_wp2_with fail
      refine (impl_times ha16 hys hft).mono ?_; rintro e w2 ⟨rfl, hb2⟩
      have HO2 := Lib.hid (HO.out.up hb2)
      have hB2 := below_go hb hb2
      have hsz2 := hB2.size
      go_wp2_with (first | (at_builtin; go_must ((refine wpList_append_recs Try.elStr strE_one rfl (.tmp 15) (.tmp 19) rfl rfl (HO2.out.alloc _) rfl (own_lit1_at' strE_len _ 9 (timesS a y) rfl (Nat.le_refl _)).recs rfl ?_ (by decide) ?_ ?_; (focus (first | omega | (simp only [World.size_alloc]; done) | (simp only [World.size_alloc]; omega) | (simp; done) | (simp; omega))); (focus (first | omega | (simp only [World.size_alloc]; done) | (simp only [World.size_alloc]; omega) | (simp; done) | (simp; omega))); intro A3 c3 w6 ho6 hg6 hl6))))
      have hb6 : Below w.heap.size w w6 := (hB2.alloc hsz2 _).trans (grown_base hg6 (by simp; omega) (fun z hz => (HO2.out.range z hz).1))
      go_roundw
      case rel => exact ⟨k + 1, A3, c3, by omega, by go_num, by go_num, Lib.hid (by rw [HT.out]; exact ho6), hb6⟩
      case measure => simp [intOf]; omega
    · obtain rfl : k = l.length := by omega
      go_wp2
      go_ret
      have ho := HO.out
      rw [List.take_of_length_le (Nat.le_refl _)] at ho
      exact ⟨_, _, rfl, ho, hb⟩
set_option maxRecDepth 100000 in
theorem impl_setOf {p b q : ByteArray} {G : Option Addr} {gn gc : Nat} {n : Nat} {h : ByteArray} {w : World} (hq : RowN n q) (hh : RowN n h) :
    Calls Try.prog 183 #[.agg #[.string p, .string b, .slice G gn gc, .string q], .string h] w fun e w' => ∃ m A' c' L, e = .returned (.slice A' m c') ∧ 1 ≤ m ∧ m ≤ 40320 ∧ pwS n q m = roundsS n ∧ L.Perm ((pwL n q m).map (timesS h)) ∧ Owned strE 1 9 w' w.heap.size A' m c' L ∧ Below w.heap.size w w' := by
  have b0 : Below w.heap.size w (w.alloc (.cells ⟨[.string p, .string b, .slice G gn gc, .string q]⟩ 119)) := by (repeat' (first | (with_reducible exact Below.refl _ _) | (with_reducible assumption) | (with_reducible refine below_drewN ?_ _) | (with_reducible refine Below.drew ?_) | (with_reducible refine below_alloc ?_ _) | (with_reducible refine Below.alloc ?_ ?_ _) | (with_reducible refine Below.setCell ?_ ?_ _) | (with_reducible refine below_go ?_ (by with_reducible assumption)) | (with_reducible refine below_then (by with_reducible assumption) ?_ ?_) | go_size))
  have HQ := Lib.hid hq
  have HH := Lib.hid hh
  clear hq hh
  go_in
  go_wp2_with fail
  refine (impl_powers HQ.out).mono ?_; rintro e w1 ⟨m, A1, c1, rfl, h1, h2, h3, ho1, hb1⟩
  have H1 := Lib.hid ho1
  have H3 := Lib.hid h3
  clear ho1 h3
  go_wp2_with fail
  refine (impl_leftTimes H1.out.len H1.out.recs (by omega) HH.out (fun s hs => by rw [pwL, List.mem_map] at hs; obtain ⟨k, _, rfl⟩ := hs; exact pw_row HQ.out k)).mono ?_; rintro e w2 ⟨A2, c2, rfl, ho2, hb2⟩
  have H2 := Lib.hid ho2
  obtain ⟨g, rfl, _, _, _, _⟩ := ho2.at_ (by omega)
  clear ho2
  go_wp2_with fail
  refine (impl_sorted H2.out.len H2.out.recs (by omega) h1).mono ?_; rintro e w3 ⟨A3, c3, L, rfl, hp, ho3, hb3⟩
  have hB2 := below_go (below_go b0 hb1) hb2
  go_wp2
  go_ret
  exact ⟨m, _, _, L, rfl, h1, h2, H3.out, hp, ho3.base_le hB2.size, below_go hB2 hb3⟩
end Go.Proofs.Ytmdmnjjlpefigaa
/- The walks through the odd changes of a list, both sides. -/
namespace Go.Proofs.Ytmdmnjjlpefigaa
set_option linter.unusedVariables false
set_option linter.unusedSimpArgs false
open Go.ChangeShapes Go.WideShapes Go.ChangeAt Go.RowKit Go.Deep
theorem wrap_pred {k : Nat} (h0 : 0 < k) (h1 : k ≤ 16777216) : IntKind.i64.wrap ((k : Int) - 1) = ((k - 1 : Nat) : Int) := by
  rw [PlainAid.i64_is]; unfold wrap64; omega
set_option maxRecDepth 100000 in
theorem impl_increasing {A : Option Addr} {N c : Nat} {l : List ByteArray} {w : World} (hN : l.length = N) (h : Strs w A l) (hz : N ≤ 16777216) :
    Calls Try.prog 116 #[.slice A N c] w fun e w' => e = .returned (.bool (incB l)) ∧ Below w.heap.size w w' := by
  subst hN
  have HG : Hid (incB l = (List.range l.length).all (okInc l)) := Lib.hid rfl
  go_in
  go_wp2
  go_loopw [3] (fun i wr => ∃ k : Nat, 0 < k ∧ k ≤ l.length + 1 ∧ i = .int .i64 k ∧ Hid (∀ j, j < k → okInc l j = true) ∧ Below w.heap.size w wr) (fun i _ => l.length + 1 - (intOf i).toNat)
  case atStart => exact ⟨1, by omega, by omega, rfl, Lib.hid (fun j hj => (by have : j = 0 := (by omega); subst this; exact okInc_0 l)), Below.refl _ _⟩
  case round =>
    obtain ⟨k, hk0, hk, rfl, HK, hb⟩ := hrel
    by_cases hlt : k < l.length
    · have hr := h.below hb (Nat.le_refl _)
      obtain ⟨b1, o1, y, rfl, hbb, hy, hcy⟩ := hr.at_str hlt
      obtain ⟨b2, o2, x, e, _, hx, hcx⟩ := hr.at_str (k := k - 1) (by omega)
      injection e with e
      injection e with e1 e2
      subst e1 e2
      have E := Lib.hid (okInc_pos hk0 hx hy)
      have hwk := wrap_pred hk0 (by omega)
      have hlt1 : k - 1 < l.length := by omega
      clear h hr hx hy
      rcases hl : less x y
      · obtain ⟨h1, h2⟩ := less_no hl
        clear hl
        have e0 := Lib.hid (show okInc l k = false by rw [E.out]; exact h1)
        rcases h2 with h2 | ⟨h2, h3⟩
        all_goals
          go_wp2
          go_quiet (fail)
          go_wp2
          go_ret
          refine ⟨ret_bool ?_, by (repeat' (first | (with_reducible exact Below.refl _ _) | (with_reducible assumption) | (with_reducible refine below_drewN ?_ _) | (with_reducible refine Below.drew ?_) | (with_reducible refine below_alloc ?_ _) | (with_reducible refine Below.alloc ?_ ?_ _) | (with_reducible refine Below.setCell ?_ ?_ _) | (with_reducible refine below_go ?_ (by with_reducible assumption)) | (with_reducible refine below_then (by with_reducible assumption) ?_ ?_) | go_size))⟩
          rw [HG.out, all_no hlt e0.out]
      · obtain ⟨h1, h2, h3⟩ := less_yes hl
        have e0 := Lib.hid (show okInc l k = true by rw [E.out]; exact hl)
        clear hl
        go_wp2
        go_quiet (fail)
        go_wp2
        go_roundw
        case rel => exact ⟨k + 1, by omega, by omega, by go_num, Lib.hid (upto_succ HK.out e0.out), by (repeat' (first | (with_reducible exact Below.refl _ _) | (with_reducible assumption) | (with_reducible refine below_drewN ?_ _) | (with_reducible refine Below.drew ?_) | (with_reducible refine below_alloc ?_ _) | (with_reducible refine Below.alloc ?_ ?_ _) | (with_reducible refine Below.setCell ?_ ?_ _) | (with_reducible refine below_go ?_ (by with_reducible assumption)) | (with_reducible refine below_then (by with_reducible assumption) ?_ ?_) | go_size))⟩
        case measure => simp [intOf]; omega
    · go_wp2
      go_ret
      refine ⟨ret_bool ?_, hb⟩
      rw [HG.out, all_yes (fun j hj => HK.out j (by omega))]
set_option maxRecDepth 100000 in
theorem spec_l19With {A : Option Addr} {N c : Nat} {l : List ByteArray} {n : Int} {w : World} (hN : l.length = N) (h : Strs w A l) (hz : N ≤ 16777216) (hs : ∀ s ∈ l, s.size ≤ 16777216) (hn : I64 n) :
    Calls Try.prog 63 #[.int .i64 n, .slice A N c] w fun e w' => e = .returned (.bool (goodWith n l)) ∧ w = w' := by
  subst hN
  have HG : Hid (goodWith n l = ((List.range l.length).all (okWith n l) && inB l.length 1 30)) := Lib.hid rfl
  have HW : Hid (∀ k, okWith n l k = (okCh n l k && okInc l k)) := Lib.hid (fun _ => rfl)
  have HS := Lib.hid hs
  clear hs
  go_in
  go_wp2
  go_loopw [9] (fun i wr => ∃ k : Nat, k ≤ l.length ∧ i = .int .i64 k ∧ Hid (∀ j, j < k → okWith n l j = true) ∧ w = wr) (fun i _ => l.length - (intOf i).toNat)
  case atStart => exact ⟨0, Nat.zero_le _, rfl, Lib.hid (fun j hj => absurd hj (by omega)), rfl⟩
  case round =>
    obtain ⟨k, hk, rfl, HK, rfl⟩ := hrel
    by_cases hlt : k < l.length
    · obtain ⟨b1, o1, y, rfl, hbb, hy, hcy⟩ := h.at_str hlt
      have hys := HS.out y (List.mem_of_getElem? hy)
      have EC := Lib.hid (okCh_at (n := n) hy)
      rcases hg : goodChange n y
      · have e0 := Lib.hid (show okWith n l k = false by rw [HW.out, EC.out, hg]; rfl)
        clear hy
        go_wp2_with (first | (go_at_call 111; refine (spec_l2Change hys hn).mono ?_; rintro e w' ⟨rfl, rfl⟩))
        go_ret
        refine ⟨ret_bool ?_, rfl⟩
        rw [HG.out, all_bad hlt e0.out]
      by_cases hk0 : 0 < k
      · obtain ⟨b2, o2, x, e, _, hx, hcx⟩ := h.at_str (k := k - 1) (by omega)
        injection e with e
        injection e with e1 e2
        subst e1 e2
        have E := Lib.hid (okInc_pos hk0 hx hy)
        have hlt1 : k - 1 < l.length := by omega
        clear hx hy
        rcases hl : less x y
        · obtain ⟨h1, h2⟩ := less_no hl
          clear h2
          have e0 := Lib.hid (show okWith n l k = false by rw [HW.out, EC.out, hg, E.out, hl]; rfl)
          clear hl
          go_wp2_with (first | (go_at_call 111; refine (spec_l2Change hys hn).mono ?_; rintro e w' ⟨rfl, rfl⟩))
          go_ret
          refine ⟨ret_bool ?_, rfl⟩
          rw [HG.out, all_bad hlt e0.out]
        · obtain ⟨h1, h2, h3⟩ := less_yes hl
          have e0 := Lib.hid (show okWith n l k = true by rw [HW.out, EC.out, hg, E.out, hl]; rfl)
          clear hl
          go_wp2_with (first | (go_at_call 111; refine (spec_l2Change hys hn).mono ?_; rintro e w' ⟨rfl, rfl⟩))
          go_roundw
          case rel => exact ⟨k + 1, by omega, by go_num, Lib.hid (upto_succ HK.out e0.out), trivial⟩
          case measure => simp [intOf]; omega
      · have e0 := Lib.hid (show okWith n l k = true by rw [HW.out, EC.out, hg, okInc_z hk0]; rfl)
        have hk1 : decide ((0 : Int) < (k : Int)) = false := decide_eq_false (by omega)
        clear hy
        go_wp2_with (first | (go_at_call 111; refine (spec_l2Change hys hn).mono ?_; rintro e w' ⟨rfl, rfl⟩))
        go_roundw
        case rel => exact ⟨k + 1, by omega, by go_num, Lib.hid (upto_succ HK.out e0.out), trivial⟩
        case measure => simp [intOf]; omega
    · obtain rfl : k = l.length := by omega
      go_wp2_with (first | (go_at_call 70; refine (spec_l1In _ _ _ _).mono ?_; rintro e w' ⟨rfl, rfl⟩))
      go_ret
      refine ⟨ret_bool ?_, rfl⟩
      rw [HG.out, all_good (fun j hj => HK.out j hj)]
set_option maxRecDepth 100000 in
theorem impl_goodWith {A : Option Addr} {N c : Nat} {l : List ByteArray} {n : Int} {w : World} (hN : l.length = N) (h : Strs w A l) (hz : N ≤ 16777216) (hs : ∀ s ∈ l, s.size ≤ 16777216) :
    Calls Try.prog 67 #[.int .i64 n, .slice A N c] w fun e w' => e = .returned (.bool (goodWith n l)) ∧ Below w.heap.size w w' := by
  subst hN
  rcases h1 : inB n 3 8
  · have e0 := Lib.hid (goodWith_stage (l := l) h1)
    go_in
    go_wp2_with (first | (go_at_call 115; refine (impl_isStage _ _).mono ?_; rintro e w' ⟨rfl, rfl⟩))
    go_ret
    exact ⟨ret_bool e0.out.symm, Below.refl _ _⟩
  have HP := Lib.hid (goodWith_parts n l)
  rcases h2 : inB l.length 1 30
  · have e0 := Lib.hid (show goodWith n l = false by rw [HP.out, h2]; rfl)
    go_in
    go_wp2_with (first | (go_at_call 115; refine (impl_isStage _ _).mono ?_; rintro e w' ⟨rfl, rfl⟩) | (go_at_call 73; refine (impl_within _ _ _ _).mono ?_; rintro e w' ⟨rfl, rfl⟩))
    go_ret
    exact ⟨ret_bool e0.out.symm, Below.refl _ _⟩
  rcases h3 : incB l
  · have e0 := Lib.hid (show goodWith n l = false by rw [HP.out, h2, h3]; rfl)
    go_in
    go_wp2_with (first | (go_at_call 115; refine (impl_isStage _ _).mono ?_; rintro e w' ⟨rfl, rfl⟩) | (go_at_call 73; refine (impl_within _ _ _ _).mono ?_; rintro e w' ⟨rfl, rfl⟩) | (go_at_call 116; refine (impl_increasing rfl h hz).mono ?_; rintro e w1 ⟨rfl, hb1⟩))
    go_ret
    exact ⟨ret_bool e0.out.symm, hb1⟩
  have HG := Lib.hid (show goodWith n l = (List.range l.length).all (okCh n l) by rw [HP.out, h2, h3]; rfl)
  have HS := Lib.hid hs
  clear hs
  go_in
  go_wp2_with (first | (go_at_call 115; refine (impl_isStage _ _).mono ?_; rintro e w' ⟨rfl, rfl⟩) | (go_at_call 73; refine (impl_within _ _ _ _).mono ?_; rintro e w' ⟨rfl, rfl⟩) | (go_at_call 116; refine (impl_increasing rfl h hz).mono ?_; rintro e w1 ⟨rfl, hb1⟩))
  go_loopw [23] (fun i wr => ∃ k : Nat, k ≤ l.length ∧ i = .int .i64 k ∧ Hid (∀ j, j < k → okCh n l j = true) ∧ Below w.heap.size w wr) (fun i _ => l.length - (intOf i).toNat)
  case atStart => exact ⟨0, Nat.zero_le _, rfl, Lib.hid (fun j hj => absurd hj (by omega)), hb1⟩
  case round =>
    obtain ⟨k, hk, rfl, HK, hb⟩ := hrel
    by_cases hlt : k < l.length
    · obtain ⟨b1, o1, y, rfl, hbb, hy, hcy⟩ := (h.below hb (Nat.le_refl _)).at_str hlt
      have hys := HS.out y (List.mem_of_getElem? hy)
      have EC := Lib.hid (okCh_at (n := n) hy)
      clear hy
      rcases hg : goodChange n y
      · have e0 := Lib.hid (show okCh n l k = false by rw [EC.out, hg])
        go_wp2_with (first | (go_at_call 117; refine (impl_GoodChange hys).mono ?_; rintro e w2 ⟨rfl, hb2⟩))
        go_ret
        refine ⟨ret_bool ?_, below_go hb hb2⟩
        rw [HG.out, all_no hlt e0.out]
      · have e0 := Lib.hid (show okCh n l k = true by rw [EC.out, hg])
        go_wp2_with (first | (go_at_call 117; refine (impl_GoodChange hys).mono ?_; rintro e w2 ⟨rfl, hb2⟩))
        go_roundw
        case rel => exact ⟨k + 1, by omega, by go_num, Lib.hid (upto_succ HK.out e0.out), below_go hb hb2⟩
        case measure => simp [intOf]; omega
    · obtain rfl : k = l.length := by omega
      go_wp2
      go_ret
      refine ⟨ret_bool ?_, hb⟩
      rw [HG.out, all_yes (fun j hj => HK.out j hj)]
end Go.Proofs.Ytmdmnjjlpefigaa
/- The walks of chapter 17: the bobs, both sides. -/
namespace Go.Proofs.Ytmdmnjjlpefigaa
set_option linter.unusedVariables false
set_option linter.unusedSimpArgs false
open Go.ChangeShapes Go.WideShapes Go.ChangeAt Go.RowKit Go.Deep
theorem closed_one {n m : Nat} {q x : ByteArray} {B : List ByteArray} (hq : RowN n q) (hx : x ∈ B) (hxN : RowN n x) (hm : 1 ≤ m) (hr : pwS n q m = roundsS n) (h : ∀ y ∈ (pwL n q m).map (timesS x), y ∈ B) : timesS x q ∈ B := by
  by_cases h1 : 1 < m
  · have := h (timesS x (pwS n q 1)) (List.mem_map_of_mem (by rw [pwL, List.mem_map]; exact ⟨1, List.mem_range.2 h1, rfl⟩))
    rwa [pw_one hq] at this
  · obtain rfl : m = 1 := by omega
    have h2 := times_rounds hxN.1
    rw [hxN.2] at h2
    rw [← pw_one hq, hr, h2]; exact hx
theorem closed_not {n m : Nat} {q x y : ByteArray} {B : List ByteArray} (hq : RowN n q) (hB : ∀ h ∈ B, RowN n h) (hx : x ∈ B) (hy : y ∈ (pwL n q m).map (timesS x)) (hn : y ∉ B) : closedB q B = false := by
  rcases hc : closedB q B with _ | _
  · rfl
  · rw [List.mem_map] at hy
    obtain ⟨z, hz, rfl⟩ := hy
    rw [pwL, List.mem_map] at hz
    obtain ⟨k, _, rfl⟩ := hz
    exact absurd (closed_pw hq hB hc hx k) hn
theorem closed_yes {q : ByteArray} {B : List ByteArray} (h : ∀ (j : Nat) (x : ByteArray), B[j]? = some x → timesS x q ∈ B) : closedB q B = true := by
  rw [closedB, List.all_eq_true]
  intro x hx
  obtain ⟨j, hj⟩ := List.getElem?_of_mem hx
  exact inL_iff.2 (h j x hj)
theorem closed_bad {q x : ByteArray} {B : List ByteArray} (hx : x ∈ B) (h : timesS x q ∉ B) : closedB q B = false := by
  rcases hc : closedB q B with _ | _
  · rfl
  · exact absurd (inL_iff.1 (List.all_eq_true.1 hc x hx)) h
theorem in_yes {L B : List ByteArray} (h : ∀ (j : Nat) (x : ByteArray), B[j]? = some x → inL L x = true) : B.all (inL L) = true := by
  rw [List.all_eq_true]
  intro x hx
  obtain ⟨j, hj⟩ := List.getElem?_of_mem hx
  exact h j x hj
theorem in_bad {L B : List ByteArray} {x : ByteArray} (hx : x ∈ B) (h : inL L x = false) : B.all (inL L) = false := by
  rcases hc : B.all (inL L) with _ | _
  · rfl
  · rw [List.all_eq_true.1 hc x hx] at h; cases h
theorem upto_more {B : List ByteArray} {P : ByteArray → Prop} {k : Nat} {y : ByteArray} (h : ∀ j x, j < k → B[j]? = some x → P x) (hy : B[k]? = some y) (hp : P y) : ∀ j x, j < k + 1 → B[j]? = some x → P x := fun j x hj hx => by
  rcases Nat.lt_or_ge j k with h1 | h1
  · exact h j x h1 hx
  · obtain rfl : j = k := by omega
    rw [hy] at hx; injection hx with hx; rw [← hx]; exact hp
/-- The next head of a row. -/
def nextS (p b : ByteArray) (B : List ByteArray) (h : ByteArray) : ByteArray := if inL B h = true then timesS h b else timesS h p
theorem nextS_t {p b : ByteArray} {B : List ByteArray} {h : ByteArray} (e : inL B h = true) : nextS p b B h = timesS h b := if_pos e
theorem nextS_f {p b : ByteArray} {B : List ByteArray} {h : ByteArray} (e : inL B h = false) : nextS p b B h = timesS h p := if_neg (by rw [e]; simp)
theorem inc_bad {B : List ByteArray} {k : Nat} (hk : k < B.length) (h : okInc B k = false) : incB B = false := all_no hk h
set_option maxRecDepth 100000 in
theorem impl_inGroup {p b q : ByteArray} {G : Option Addr} {gn gc : Nat} {L B : List ByteArray} {A : Option Addr} {N c : Nat} {w : World} (hL : L.length = gn) (hG : Strs w G L) (hLz : gn ≤ 16777216) (hLs : Srt L) (hN : B.length = N) (h : Strs w A B) (hz : N ≤ 16777216) :
    Calls Try.prog 152 #[.agg #[.string p, .string b, .slice G gn gc, .string q], .slice A N c] w fun e w' => e = .returned (.bool (rowsInB L B)) ∧ Below w.heap.size w w' := by
  subst hN
  have b0 : Below w.heap.size w (w.alloc (.cells ⟨[.string p, .string b, .slice G gn gc, .string q]⟩ 119)) := by (repeat' (first | (with_reducible exact Below.refl _ _) | (with_reducible assumption) | (with_reducible refine below_drewN ?_ _) | (with_reducible refine Below.drew ?_) | (with_reducible refine below_alloc ?_ _) | (with_reducible refine Below.alloc ?_ ?_ _) | (with_reducible refine Below.setCell ?_ ?_ _) | (with_reducible refine below_go ?_ (by with_reducible assumption)) | (with_reducible refine below_then (by with_reducible assumption) ?_ ?_) | go_size))
  have K0 := Blk.at_ w 119 [.string p, .string b, .slice G gn gc, .string q] (b := w.heap.size) rfl
  have HR : Hid (rowsInB L B = (B.all (inL L) && incB B)) := Lib.hid rfl
  have HS := Lib.hid hLs
  clear hLs
  go_in
  go_upto_region 1 with fail
  obtain ⟨w1, hw1⟩ : ∃ u, u = (w.alloc (.cells #[.string p, .string b, .slice G gn gc, .string q] 119)) := ⟨_, rfl⟩
  rw [← hw1] at b0 K0 ⊢
  clear hw1
  have carry : Hid (∀ u : World, Below w1.heap.size w1 u → u.cell? ⟨w.heap.size, 2, none⟩ = some (.slice G gn gc)) := Lib.hid (fun u hu => by
    have L0 := K0.up hu
    simpa using L0.cell 2)
  have HG := Lib.hid (hG.up b0)
  have HB := Lib.hid (h.up b0)
  clear K0 hG h
  go_wp2
  go_loopw [9] (fun i wr => ∃ k : Nat, k ≤ B.length ∧ i = .int .i64 k ∧ Hid (∀ j x, j < k → B[j]? = some x → inL L x = true) ∧ Below w1.heap.size w1 wr) (fun i _ => B.length - (intOf i).toNat)
  case atStart => exact ⟨0, Nat.zero_le _, rfl, Lib.hid (fun j x hj _ => absurd hj (by omega)), Below.refl _ _⟩
  case round =>
    obtain ⟨k, hk, rfl, HK, hb⟩ := hrel
    by_cases hlt : k < B.length
    · obtain ⟨b1, o1, y, rfl, hbb, hy, hcy⟩ := (HB.out.below hb (Nat.le_refl _)).at_str hlt
      have c2 := carry.out _ hb
      have HY := Lib.hid hy
      clear hy
      go_wp2_with fail
      refine (impl_has hL (HG.out.below hb (Nat.le_refl _)) hLz HS.out).mono ?_; rintro e w2 ⟨rfl, hb2⟩
      have hB2 : Below w1.heap.size w1 w2 := hb.trans (hb2.mono hb.size)
      rcases hin : inL L y
      · have e0 := Lib.hid (show rowsInB L B = false by rw [HR.out, in_bad (List.mem_of_getElem? HY.out) hin]; rfl)
        clear hin
        go_wp2
        go_ret
        exact ⟨ret_bool e0.out.symm, below_go b0 hB2⟩
      · have HK2 := Lib.hid (upto_more (P := fun x => inL L x = true) HK.out HY.out hin)
        clear hin
        go_wp2
        go_roundw
        case rel => exact ⟨k + 1, by omega, by go_num, HK2, hB2⟩
        case measure => simp [intOf]; omega
    · obtain rfl : k = B.length := by omega
      have e0 := Lib.hid (show rowsInB L B = incB B by rw [HR.out, in_yes (fun j x hx => HK.out j x (List.getElem?_eq_some_iff.1 hx).1 hx), Bool.true_and])
      go_wp2_with fail
      refine (impl_increasing rfl (HB.out.below hb (Nat.le_refl _)) hz).mono ?_; rintro e w2 ⟨rfl, hb2⟩
      go_wp2
      go_ret
      exact ⟨ret_bool e0.out.symm, below_go b0 (hb.trans (hb2.mono hb.size))⟩
set_option maxHeartbeats 1000000 in
set_option maxRecDepth 100000 in
theorem impl_areBobs {p b q : ByteArray} {G : Option Addr} {gn gc : Nat} {B : List ByteArray} {A : Option Addr} {N c n : Nat} {w : World} (hq : RowN n q) (hN : B.length = N) (h : Strs w A B) (hz : N ≤ 16777216) (hBN : ∀ s ∈ B, RowN n s) (hs : Srt B) :
    Calls Try.prog 153 #[.agg #[.string p, .string b, .slice G gn gc, .string q], .slice A N c] w fun e w' => e = .returned (.bool (closedB q B)) ∧ Below w.heap.size w w' := by
  subst hN
  have b0 : Below w.heap.size w (w.alloc (.cells ⟨[.string p, .string b, .slice G gn gc, .string q]⟩ 119)) := by (repeat' (first | (with_reducible exact Below.refl _ _) | (with_reducible assumption) | (with_reducible refine below_drewN ?_ _) | (with_reducible refine Below.drew ?_) | (with_reducible refine below_alloc ?_ _) | (with_reducible refine Below.alloc ?_ ?_ _) | (with_reducible refine Below.setCell ?_ ?_ _) | (with_reducible refine below_go ?_ (by with_reducible assumption)) | (with_reducible refine below_then (by with_reducible assumption) ?_ ?_) | go_size))
  have K0 := Blk.at_ w 119 [.string p, .string b, .slice G gn gc, .string q] (b := w.heap.size) rfl
  have HS := Lib.hid hs
  have HQ := Lib.hid hq
  have HBN := Lib.hid hBN
  clear hs hq hBN
  go_in
  go_upto_region 1 with fail
  obtain ⟨w1, hw1⟩ : ∃ u, u = (w.alloc (.cells #[.string p, .string b, .slice G gn gc, .string q] 119)) := ⟨_, rfl⟩
  rw [← hw1] at b0 K0 ⊢
  clear hw1
  have carry : Hid (∀ u : World, Below w1.heap.size w1 u → u.cell? ⟨w.heap.size, 0, none⟩ = some (.string p) ∧ u.cell? ⟨w.heap.size, 1, none⟩ = some (.string b) ∧ u.cell? ⟨w.heap.size, 2, none⟩ = some (.slice G gn gc) ∧ u.cell? ⟨w.heap.size, 3, none⟩ = some (.string q)) := Lib.hid (fun u hu => by
    have L0 := K0.up hu
    exact ⟨by simpa using L0.cell 0, by simpa using L0.cell 1, by simpa using L0.cell 2, by simpa using L0.cell 3⟩)
  have HB := Lib.hid (h.up b0)
  clear K0 h
  go_wp2
  go_loopw [11] (fun i wr => ∃ k : Nat, k ≤ B.length ∧ i = .int .i64 k ∧ Hid (∀ j x, j < k → B[j]? = some x → timesS x q ∈ B) ∧ Below w1.heap.size w1 wr) (fun i _ => B.length - (intOf i).toNat)
  case atStart => exact ⟨0, Nat.zero_le _, rfl, Lib.hid (fun j x hj _ => absurd hj (by omega)), Below.refl _ _⟩
  case round =>
    obtain ⟨k, hk, rfl, HK, hb⟩ := hrel
    by_cases hlt : k < B.length
    · obtain ⟨b1, o1, y, rfl, hbb, hy, hcy⟩ := (HB.out.below hb (Nat.le_refl _)).at_str hlt
      obtain ⟨c0, c1, c2, c3⟩ := carry.out _ hb
      have HY := Lib.hid hy
      have HYN := Lib.hid (HBN.out y (List.mem_of_getElem? hy))
      clear hy
      go_wp2_with fail
      refine (impl_setOf HQ.out HYN.out).mono ?_; rintro e w2 ⟨m, A2, c2', T, rfl, hm1, hm2, hm3, hp, ho, hb2⟩
      have hB2 : Below w1.heap.size w1 w2 := hb.trans (hb2.mono hb.size)
      have HM3 := Lib.hid hm3
      have HP := Lib.hid hp
      have HO := Lib.hid ho
      clear hm3 hp ho c0 c1 c2 c3 hcy
      go_wp2
      go_loopw [19] (fun i wr => ∃ j : Nat, j ≤ m ∧ i = .int .i64 j ∧ Hid (∀ i x, i < j → T[i]? = some x → x ∈ B) ∧ Below w2.heap.size w2 wr) (fun i _ => m - (intOf i).toNat)
      case atStart => exact ⟨0, Nat.zero_le _, rfl, Lib.hid (fun j x hj _ => absurd hj (by omega)), Below.refl _ _⟩
      case round =>
        obtain ⟨j, hj, rfl, HJ, hbj⟩ := hrel
        have hBj : Below w1.heap.size w1 _ := hB2.trans (hbj.mono hB2.size)
        by_cases hlj : j < m
        · obtain ⟨b3, o3, z, rfl, hbz, hz', hcz⟩ := (HO.out.recs.below hbj (Nat.le_refl _)).at_str (k := j) (by rw [HO.out.len]; exact hlj)
          have HZ := Lib.hid hz'
          clear hz'
          go_wp2_with fail
          refine (impl_has rfl (HB.out.below hBj (Nat.le_refl _)) hz HS.out).mono ?_; rintro e w4 ⟨rfl, hb4⟩
          rcases hin : inL B z
          · have e0 := Lib.hid (show closedB q B = false from closed_not HQ.out HBN.out (List.mem_of_getElem? HY.out) (HP.out.mem_iff.1 (List.mem_of_getElem? HZ.out)) (fun hc => by rw [inL_iff.2 hc] at hin; cases hin))
            clear hin
            go_wp2
            go_ret
            exact ⟨ret_bool e0.out.symm, below_go b0 (hBj.trans (hb4.mono hBj.size))⟩
          · have HJ2 := Lib.hid (upto_more (P := fun x => x ∈ B) HJ.out HZ.out (inL_iff.1 hin))
            clear hin
            go_wp2
            go_roundw
            case rel => exact ⟨j + 1, by omega, by go_num, HJ2, hbj.trans (hb4.mono hbj.size)⟩
            case measure => simp [intOf]; omega
        · obtain rfl : j = m := by omega
          have hcl := closed_one HQ.out (List.mem_of_getElem? HY.out) HYN.out hm1 HM3.out (fun y' hy' => by
            obtain ⟨i, hi⟩ := List.getElem?_of_mem (HP.out.mem_iff.2 hy')
            have := (List.getElem?_eq_some_iff.1 hi).1
            rw [HO.out.len] at this
            exact HJ.out i y' this hi)
          have HK2 := Lib.hid (upto_more (P := fun x => timesS x q ∈ B) HK.out HY.out hcl)
          clear hcl
          go_wp2
          go_roundw
          case rel => exact ⟨k + 1, by omega, by go_num, HK2, hBj⟩
          case measure => simp [intOf]; omega
    · obtain rfl : k = B.length := by omega
      have e0 := Lib.hid (closed_yes (q := q) (fun j x hx => HK.out j x (List.getElem?_eq_some_iff.1 hx).1 hx))
      go_wp2
      go_ret
      exact ⟨ret_bool e0.out.symm, below_go b0 hb⟩
set_option maxRecDepth 100000 in
theorem impl_next {p b q : ByteArray} {G : Option Addr} {gn gc : Nat} {B : List ByteArray} {h : ByteArray} {A : Option Addr} {N c n : Nat} {w : World} (hp : RowN n p) (hb : RowN n b) (hh : RowN n h) (hN : B.length = N) (hB : Strs w A B) (hz : N ≤ 16777216) (hs : Srt B) :
    Calls Try.prog 105 #[.agg #[.string p, .string b, .slice G gn gc, .string q], .slice A N c, .string h] w fun e w' => e = .returned (.string (nextS p b B h)) ∧ Below w.heap.size w w' := by
  have b0 : Below w.heap.size w (w.alloc (.cells ⟨[.string p, .string b, .slice G gn gc, .string q]⟩ 119)) := by (repeat' (first | (with_reducible exact Below.refl _ _) | (with_reducible assumption) | (with_reducible refine below_drewN ?_ _) | (with_reducible refine Below.drew ?_) | (with_reducible refine below_alloc ?_ _) | (with_reducible refine Below.alloc ?_ ?_ _) | (with_reducible refine Below.setCell ?_ ?_ _) | (with_reducible refine below_go ?_ (by with_reducible assumption)) | (with_reducible refine below_then (by with_reducible assumption) ?_ ?_) | go_size))
  have K0 := Blk.at_ w 119 [.string p, .string b, .slice G gn gc, .string q] (b := w.heap.size) rfl
  have hst := hp.st
  have h1 : h.size ≤ 16777216 := by rw [hh.2]; omega
  have h2 : p.size ≤ 16777216 := by rw [hp.2]; omega
  have h3 : b.size ≤ 16777216 := by rw [hb.2]; omega
  have f1 := rowN_fits hh hp
  have f2 := rowN_fits hh hb
  go_in
  go_upto_region 1 with fail
  obtain ⟨w1, hw1⟩ : ∃ u, u = (w.alloc (.cells #[.string p, .string b, .slice G gn gc, .string q] 119)) := ⟨_, rfl⟩
  rw [← hw1] at b0 K0 ⊢
  clear hw1
  go_wp2_with fail
  refine (impl_has hN (hB.up b0) hz hs).mono ?_; rintro e w2 ⟨rfl, hb2⟩
  have L0 := K0.up hb2
  have c0 : w2.cell? ⟨w.heap.size, 0, none⟩ = some (.string p) := by simpa using L0.cell 0
  have c1 : w2.cell? ⟨w.heap.size, 1, none⟩ = some (.string b) := by simpa using L0.cell 1
  have hB2 := below_go b0 hb2
  clear L0 K0
  rcases hin : inL B h
  · have e0 := Lib.hid (nextS_f (p := p) (b := b) hin)
    go_wp2_with (first | (go_at_call 122; refine (impl_times h1 h2 f1).mono ?_; rintro e w3 ⟨rfl, hb3⟩))
    go_ret
    rw [e0.out]
    exact ⟨rfl, below_go hB2 hb3⟩
  · have e0 := Lib.hid (nextS_t (p := p) (b := b) hin)
    go_wp2_with (first | (go_at_call 122; refine (impl_times h1 h3 f2).mono ?_; rintro e w3 ⟨rfl, hb3⟩))
    go_ret
    rw [e0.out]
    exact ⟨rfl, below_go hB2 hb3⟩
end Go.Proofs.Ytmdmnjjlpefigaa
/- The walks of chapter 17: the reference's bobs. -/
namespace Go.Proofs.Ytmdmnjjlpefigaa
set_option linter.unusedVariables false
set_option linter.unusedSimpArgs false
open Go.ChangeShapes Go.WideShapes Go.ChangeAt Go.RowKit Go.Deep
def okRowIn (L B : List ByteArray) (k : Nat) : Bool := inL L (B.getD k ByteArray.empty) && okInc B k
theorem rowsIn_eq (L B : List ByteArray) : rowsInB L B = (List.range B.length).all (okRowIn L B) := by
  rw [Bool.eq_iff_iff, rowsInB, Bool.and_eq_true, incB, List.all_eq_true, List.all_eq_true, List.all_eq_true]
  constructor
  · rintro ⟨h1, h2⟩ k hk
    have hl := List.mem_range.1 hk
    rw [okRowIn, Bool.and_eq_true]
    refine ⟨?_, h2 k hk⟩
    rw [List.getD, List.getElem?_eq_getElem hl]
    exact h1 _ (List.getElem_mem hl)
  · intro h
    refine ⟨fun x hx => ?_, fun k hk => ?_⟩
    · obtain ⟨j, hj⟩ := List.getElem?_of_mem hx
      have h1 := h j (List.mem_range.2 (List.getElem?_eq_some_iff.1 hj).1)
      rw [okRowIn, Bool.and_eq_true, List.getD, hj] at h1
      exact h1.1
    · have h1 := h k hk
      rw [okRowIn, Bool.and_eq_true] at h1
      exact h1.2
set_option maxRecDepth 100000 in
theorem spec_rows17 {p b q : ByteArray} {G : Option Addr} {gn gc : Nat} {L B : List ByteArray} {A : Option Addr} {N c : Nat} {w : World} (hL : L.length = gn) (hG : Strs w G L) (hLz : gn ≤ 16777216) (hN : B.length = N) (h : Strs w A B) (hz : N ≤ 16777216) :
    Calls Try.prog 149 #[.agg #[.string p, .string b, .string q, .slice G gn gc], .slice A N c] w fun e w' => e = .returned (.bool (rowsInB L B)) ∧ Below w.heap.size w w' := by
  subst hN
  have b0 : Below w.heap.size w (w.alloc (.cells ⟨[.string p, .string b, .string q, .slice G gn gc]⟩ 113)) := by (repeat' (first | (with_reducible exact Below.refl _ _) | (with_reducible assumption) | (with_reducible refine below_drewN ?_ _) | (with_reducible refine Below.drew ?_) | (with_reducible refine below_alloc ?_ _) | (with_reducible refine Below.alloc ?_ ?_ _) | (with_reducible refine Below.setCell ?_ ?_ _) | (with_reducible refine below_go ?_ (by with_reducible assumption)) | (with_reducible refine below_then (by with_reducible assumption) ?_ ?_) | go_size))
  have K0 := Blk.at_ w 113 [.string p, .string b, .string q, .slice G gn gc] (b := w.heap.size) rfl
  have HR : Hid (rowsInB L B = (List.range B.length).all (okRowIn L B)) := Lib.hid (rowsIn_eq L B)
  have HW : Hid (∀ k, okRowIn L B k = (inL L (B.getD k ByteArray.empty) && okInc B k)) := Lib.hid (fun _ => rfl)
  go_in
  go_upto_region 1 with fail
  obtain ⟨w1, hw1⟩ : ∃ u, u = (w.alloc (.cells #[.string p, .string b, .string q, .slice G gn gc] 113)) := ⟨_, rfl⟩
  rw [← hw1] at b0 K0 ⊢
  clear hw1
  have c3 : w1.cell? ⟨w.heap.size, 3, none⟩ = some (.slice G gn gc) := by simpa using K0.cell 3
  have HG := Lib.hid (hG.up b0)
  have HB := h.up b0
  clear K0 hG h
  go_wp2
  go_loopw [9] (fun i wr => ∃ k : Nat, k ≤ B.length ∧ i = .int .i64 k ∧ Hid (∀ j, j < k → okRowIn L B j = true) ∧ w1 = wr) (fun i _ => B.length - (intOf i).toNat)
  case atStart => exact ⟨0, Nat.zero_le _, rfl, Lib.hid (fun j hj => absurd hj (by omega)), rfl⟩
  case round =>
    obtain ⟨k, hk, rfl, HK, rfl⟩ := hrel
    by_cases hlt : k < B.length
    · obtain ⟨b1, o1, y, rfl, hbb, hy, hcy⟩ := HB.at_str hlt
      have EC := Lib.hid (show inL L (B.getD k ByteArray.empty) = inL L y by rw [List.getD, hy]; rfl)
      rcases hg : inL L y
      · have e0 := Lib.hid (show okRowIn L B k = false by rw [HW.out, EC.out, hg]; rfl)
        clear hy
        go_wp2_with (first | (go_at_call 101; refine (spec_l1HasS hL HG.out hLz).mono ?_; rw [hg]; rintro e w' ⟨rfl, rfl⟩))
        go_ret
        refine ⟨ret_bool ?_, b0⟩
        rw [HR.out, all_no hlt e0.out]
      by_cases hk0 : 0 < k
      · obtain ⟨b2, o2, x, e, _, hx, hcx⟩ := HB.at_str (k := k - 1) (by omega)
        injection e with e
        injection e with e1 e2
        subst e1 e2
        have E := Lib.hid (okInc_pos hk0 hx hy)
        have hlt1 : k - 1 < B.length := by omega
        clear hx hy
        rcases hl : less x y
        · obtain ⟨h1, h2⟩ := less_no hl
          clear h2
          have e0 := Lib.hid (show okRowIn L B k = false by rw [HW.out, EC.out, hg, E.out, hl]; rfl)
          clear hl
          go_wp2_with (first | (go_at_call 101; refine (spec_l1HasS hL HG.out hLz).mono ?_; rw [hg]; rintro e w' ⟨rfl, rfl⟩))
          go_ret
          refine ⟨ret_bool ?_, b0⟩
          rw [HR.out, all_no hlt e0.out]
        · obtain ⟨h1, h2, h3⟩ := less_yes hl
          have e0 := Lib.hid (show okRowIn L B k = true by rw [HW.out, EC.out, hg, E.out, hl]; rfl)
          clear hl
          go_wp2_with (first | (go_at_call 101; refine (spec_l1HasS hL HG.out hLz).mono ?_; rw [hg]; rintro e w' ⟨rfl, rfl⟩))
          go_roundw
          case rel => exact ⟨k + 1, by omega, by go_num, Lib.hid (upto_succ HK.out e0.out), trivial⟩
          case measure => simp [intOf]; omega
      · have e0 := Lib.hid (show okRowIn L B k = true by rw [HW.out, EC.out, hg, okInc_z hk0]; rfl)
        have hk1 : decide ((0 : Int) < (k : Int)) = false := decide_eq_false (by omega)
        clear hy
        go_wp2_with (first | (go_at_call 101; refine (spec_l1HasS hL HG.out hLz).mono ?_; rw [hg]; rintro e w' ⟨rfl, rfl⟩))
        go_roundw
        case rel => exact ⟨k + 1, by omega, by go_num, Lib.hid (upto_succ HK.out e0.out), trivial⟩
        case measure => simp [intOf]; omega
    · obtain rfl : k = B.length := by omega
      go_wp2
      go_ret
      refine ⟨ret_bool ?_, b0⟩
      rw [HR.out, all_yes (fun j hj => HK.out j (by omega))]
set_option maxRecDepth 100000 in
theorem spec_good17 {p b q : ByteArray} {G : Option Addr} {gn gc : Nat} {B : List ByteArray} {A : Option Addr} {N c n : Nat} {w : World} (hq : RowN n q) (hN : B.length = N) (h : Strs w A B) (hz : N ≤ 16777216) (hBN : ∀ s ∈ B, RowN n s) :
    Calls Try.prog 150 #[.agg #[.string p, .string b, .string q, .slice G gn gc], .slice A N c] w fun e w' => e = .returned (.bool (closedB q B)) ∧ Below w.heap.size w w' := by
  subst hN
  have b0 : Below w.heap.size w (w.alloc (.cells ⟨[.string p, .string b, .string q, .slice G gn gc]⟩ 113)) := by (repeat' (first | (with_reducible exact Below.refl _ _) | (with_reducible assumption) | (with_reducible refine below_drewN ?_ _) | (with_reducible refine Below.drew ?_) | (with_reducible refine below_alloc ?_ _) | (with_reducible refine Below.alloc ?_ ?_ _) | (with_reducible refine Below.setCell ?_ ?_ _) | (with_reducible refine below_go ?_ (by with_reducible assumption)) | (with_reducible refine below_then (by with_reducible assumption) ?_ ?_) | go_size))
  have K0 := Blk.at_ w 113 [.string p, .string b, .string q, .slice G gn gc] (b := w.heap.size) rfl
  have HQ := Lib.hid hq
  have HBN := Lib.hid hBN
  have hst := hq.st
  have hqs : q.size ≤ 16777216 := by rw [hq.2]; omega
  clear hq hBN
  go_in
  go_upto_region 1 with fail
  obtain ⟨w1, hw1⟩ : ∃ u, u = (w.alloc (.cells #[.string p, .string b, .string q, .slice G gn gc] 113)) := ⟨_, rfl⟩
  rw [← hw1] at b0 K0 ⊢
  clear hw1
  have c2 : w1.cell? ⟨w.heap.size, 2, none⟩ = some (.string q) := by simpa using K0.cell 2
  have HB := h.up b0
  have HBH := Lib.hid HB
  clear K0 h
  go_wp2
  go_loopw [9] (fun i wr => ∃ k : Nat, k ≤ B.length ∧ i = .int .i64 k ∧ Hid (∀ j x, j < k → B[j]? = some x → timesS x q ∈ B) ∧ w1 = wr) (fun i _ => B.length - (intOf i).toNat)
  case atStart => exact ⟨0, Nat.zero_le _, rfl, Lib.hid (fun j x hj _ => absurd hj (by omega)), rfl⟩
  case round =>
    obtain ⟨k, hk, rfl, HK, rfl⟩ := hrel
    by_cases hlt : k < B.length
    · obtain ⟨b1, o1, y, rfl, hbb, hy, hcy⟩ := HB.at_str hlt
      have HY := Lib.hid hy
      have hyN := HBN.out y (List.mem_of_getElem? hy)
      have hft := rowN_fits hyN HQ.out
      have hys : y.size ≤ 16777216 := by rw [hyN.2]; omega
      clear hy hyN HB
      rcases hin : inL B (timesS y q)
      · have e0 := Lib.hid (show closedB q B = false from closed_bad (List.mem_of_getElem? HY.out) (fun hc => by rw [inL_iff.2 hc] at hin; cases hin))
        have HI := Lib.hid hin
        clear hin
        go_wp2_with (first | (go_at_call 120; refine (spec_l1Times hys hqs hft).mono ?_; rintro e w' ⟨rfl, rfl⟩) | (go_at_call 101; refine (spec_l1HasS rfl HBH.out hz).mono ?_; rw [HI.out]; rintro e w' ⟨rfl, rfl⟩))
        go_ret
        exact ⟨ret_bool e0.out.symm, b0⟩
      · have HK2 := Lib.hid (upto_more (P := fun x => timesS x q ∈ B) HK.out HY.out (inL_iff.1 hin))
        have HI := Lib.hid hin
        clear hin
        go_wp2_with (first | (go_at_call 120; refine (spec_l1Times hys hqs hft).mono ?_; rintro e w' ⟨rfl, rfl⟩) | (go_at_call 101; refine (spec_l1HasS rfl HBH.out hz).mono ?_; rw [HI.out]; rintro e w' ⟨rfl, rfl⟩))
        go_roundw
        case rel => exact ⟨k + 1, by omega, by go_num, HK2, trivial⟩
        case measure => simp [intOf]; omega
    · obtain rfl : k = B.length := by omega
      have e0 := Lib.hid (closed_yes (q := q) (fun j x hx => HK.out j x (List.getElem?_eq_some_iff.1 hx).1 hx))
      go_wp2
      go_ret
      exact ⟨ret_bool e0.out.symm, b0⟩
set_option maxRecDepth 100000 in
theorem spec_next17 {p b q : ByteArray} {G : Option Addr} {gn gc : Nat} {B : List ByteArray} {h : ByteArray} {A : Option Addr} {N c n : Nat} {w : World} (hp : RowN n p) (hb : RowN n b) (hh : RowN n h) (hN : B.length = N) (hB : Strs w A B) (hz : N ≤ 16777216) :
    Calls Try.prog 102 #[.agg #[.string p, .string b, .string q, .slice G gn gc], .slice A N c, .string h] w fun e w' => e = .returned (.string (nextS p b B h)) ∧ Below w.heap.size w w' := by
  have b0 : Below w.heap.size w (w.alloc (.cells ⟨[.string p, .string b, .string q, .slice G gn gc]⟩ 113)) := by (repeat' (first | (with_reducible exact Below.refl _ _) | (with_reducible assumption) | (with_reducible refine below_drewN ?_ _) | (with_reducible refine Below.drew ?_) | (with_reducible refine below_alloc ?_ _) | (with_reducible refine Below.alloc ?_ ?_ _) | (with_reducible refine Below.setCell ?_ ?_ _) | (with_reducible refine below_go ?_ (by with_reducible assumption)) | (with_reducible refine below_then (by with_reducible assumption) ?_ ?_) | go_size))
  have K0 := Blk.at_ w 113 [.string p, .string b, .string q, .slice G gn gc] (b := w.heap.size) rfl
  have hst := hp.st
  have h1 : h.size ≤ 16777216 := by rw [hh.2]; omega
  have h2 : p.size ≤ 16777216 := by rw [hp.2]; omega
  have h3 : b.size ≤ 16777216 := by rw [hb.2]; omega
  have f1 := rowN_fits hh hp
  have f2 := rowN_fits hh hb
  go_in
  go_upto_region 1 with fail
  obtain ⟨w1, hw1⟩ : ∃ u, u = (w.alloc (.cells #[.string p, .string b, .string q, .slice G gn gc] 113)) := ⟨_, rfl⟩
  rw [← hw1] at b0 K0 ⊢
  clear hw1
  have c0 : w1.cell? ⟨w.heap.size, 0, none⟩ = some (.string p) := by simpa using K0.cell 0
  have c1 : w1.cell? ⟨w.heap.size, 1, none⟩ = some (.string b) := by simpa using K0.cell 1
  have HB := Lib.hid (hB.up b0)
  clear K0 hB
  rcases hin : inL B h
  · have e0 := Lib.hid (nextS_f (p := p) (b := b) hin)
    have HI := Lib.hid hin
    clear hin
    go_wp2_with (first | (go_at_call 101; refine (spec_l1HasS hN HB.out hz).mono ?_; rw [HI.out]; rintro e w' ⟨rfl, rfl⟩) | (go_at_call 120; refine (spec_l1Times h1 h2 f1).mono ?_; rintro e w3 ⟨rfl, rfl⟩))
    go_ret
    rw [e0.out]
    exact ⟨rfl, b0⟩
  · have e0 := Lib.hid (nextS_t (p := p) (b := b) hin)
    have HI := Lib.hid hin
    clear hin
    go_wp2_with (first | (go_at_call 101; refine (spec_l1HasS hN HB.out hz).mono ?_; rw [HI.out]; rintro e w' ⟨rfl, rfl⟩) | (go_at_call 120; refine (spec_l1Times h1 h3 f2).mono ?_; rintro e w3 ⟨rfl, rfl⟩))
    go_ret
    rw [e0.out]
    exact ⟨rfl, b0⟩
end Go.Proofs.Ytmdmnjjlpefigaa
/- The walks through good methods and good calls, both sides. -/
namespace Go.Proofs.Ytmdmnjjlpefigaa
set_option linter.unusedVariables false
set_option linter.unusedSimpArgs false
open Go.ChangeShapes Go.WideShapes Go.ChangeAt Go.RowKit Go.Deep
theorem lowB_eq (s : ByteArray) (k : Nat) : lowB s k = (!decide (PlainAid.bt s k < 97) && !decide (122 < PlainAid.bt s k)) := by
  rw [lowB, inB, Bool.eq_iff_iff]
  simp
set_option maxRecDepth 100000 in
theorem impl_isWord {s : ByteArray} {w : World} (hz : s.size ≤ 16777216) :
    Calls Try.prog 171 #[.string s] w fun e w' => e = .returned (.bool (nameOk s)) ∧ w = w' := by
  have gb := PlainAid.get_bt s
  have HN : Hid (nameOk s = ((List.range s.size).all (lowB s) && inB s.size 1 10)) := Lib.hid rfl
  go_in
  go_wp2
  go_loopw [6] (fun i wr => ∃ k : Nat, k ≤ s.size ∧ i = .int .i64 k ∧ Hid (∀ j, j < k → lowB s j = true) ∧ w = wr) (fun i _ => s.size - (intOf i).toNat)
  case atStart => exact ⟨0, Nat.zero_le _, rfl, Lib.hid (fun j hj => absurd hj (by omega)), rfl⟩
  case round =>
    obtain ⟨k, hk, rfl, HK, rfl⟩ := hrel
    by_cases hlt : k < s.size
    · by_cases h1 : PlainAid.bt s k < 97
      · have e1 := Lib.hid (show nameOk s = false by rw [HN.out]; exact all_bad hlt (by rw [lowB_eq, decide_eq_true h1]; rfl) _)
        go_wp2
        go_ret
        rw [e1.out]
        exact ⟨rfl, rfl⟩
      · by_cases h2 : 122 < PlainAid.bt s k
        · have e1 := Lib.hid (show nameOk s = false by rw [HN.out]; exact all_bad hlt (by rw [lowB_eq, decide_eq_true h2, decide_eq_false h1]; rfl) _)
          go_wp2
          go_ret
          rw [e1.out]
          exact ⟨rfl, rfl⟩
        · have e1 := Lib.hid (show lowB s k = true by rw [lowB_eq, decide_eq_false h2, decide_eq_false h1]; rfl)
          go_wp2
          go_roundw
          case rel => exact ⟨k + 1, by omega, by go_num, Lib.hid (upto_succ HK.out e1.out), trivial⟩
          case measure => simp [intOf]; omega
    · obtain rfl : k = s.size := by omega
      have e1 := Lib.hid (show nameOk s = inB s.size 1 10 by rw [HN.out]; exact all_good (fun j hj => HK.out j hj) _)
      by_cases h1 : 1 ≤ s.size
      · go_wp2
        go_ret
        refine ⟨ret_bool ?_, rfl⟩
        rw [e1.out, inB]
        exact decide_eq_decide.2 (by omega)
      · have hI : ¬ (1 : Int) ≤ (s.size : Int) := by omega
        go_wp2
        go_ret
        refine ⟨ret_bool ?_, rfl⟩
        rw [e1.out, inB, decide_eq_false (by omega)]
set_option maxRecDepth 100000 in
theorem spec_l4Name {s : ByteArray} {w : World} (hz : s.size ≤ 16777216) :
    Calls Try.prog 177 #[.string s] w fun e w' => e = .returned (.bool (nameOk s)) ∧ w = w' := by
  have gb := PlainAid.get_bt s
  have HN : Hid (nameOk s = ((List.range s.size).all (lowB s) && inB s.size 1 10)) := Lib.hid rfl
  go_in
  go_wp2
  go_loopw [3] (fun i wr => ∃ k : Nat, k ≤ s.size ∧ i = .int .i64 k ∧ Hid (∀ j, j < k → lowB s j = true) ∧ w = wr) (fun i _ => s.size - (intOf i).toNat)
  case atStart => exact ⟨0, Nat.zero_le _, rfl, Lib.hid (fun j hj => absurd hj (by omega)), rfl⟩
  case round =>
    obtain ⟨k, hk, rfl, HK, rfl⟩ := hrel
    by_cases hlt : k < s.size
    · by_cases h1 : PlainAid.bt s k < 97
      · have e1 := Lib.hid (show nameOk s = false by rw [HN.out]; exact all_bad hlt (by rw [lowB_eq, decide_eq_true h1]; rfl) _)
        go_wp2
        go_ret
        rw [e1.out]
        exact ⟨rfl, rfl⟩
      · by_cases h2 : 122 < PlainAid.bt s k
        · have e1 := Lib.hid (show nameOk s = false by rw [HN.out]; exact all_bad hlt (by rw [lowB_eq, decide_eq_true h2, decide_eq_false h1]; rfl) _)
          go_wp2
          go_ret
          rw [e1.out]
          exact ⟨rfl, rfl⟩
        · have e1 := Lib.hid (show lowB s k = true by rw [lowB_eq, decide_eq_false h2, decide_eq_false h1]; rfl)
          go_wp2
          go_roundw
          case rel => exact ⟨k + 1, by omega, by go_num, Lib.hid (upto_succ HK.out e1.out), trivial⟩
          case measure => simp [intOf]; omega
    · obtain rfl : k = s.size := by omega
      have e1 := Lib.hid (show nameOk s = inB s.size 1 10 by rw [HN.out]; exact all_good (fun j hj => HK.out j hj) _)
      go_wp2_with fail
      refine (spec_l1In _ _ _ _).mono ?_; rintro e w' ⟨rfl, rfl⟩
      go_wp2
      go_ret
      exact ⟨ret_bool e1.out.symm, rfl⟩
set_option maxRecDepth 100000 in
theorem impl_areChanges {A : Option Addr} {N c : Nat} {st : Int} {l : List ByteArray} {w : World} (hN : l.length = N) (h : Strs w A l) (hz : N ≤ 1048576) (hs : ∀ s ∈ l, s.size ≤ 16777216) (hst : I64 st) :
    Calls Try.prog 172 #[.int .i64 st, .slice A N c] w fun e w' => e = .returned (.bool (inB l.length 1 40 && allCh st l)) ∧ Below w.heap.size w w' := by
  subst hN
  have HS := Lib.hid hs
  have HQ : Hid (allCh st l = (List.range l.length).all (okCh st l)) := Lib.hid rfl
  clear hs
  rcases hl : inB l.length 1 40
  · by_cases h1 : l.length < 1
    · have hI : (l.length : Int) < 1 := by omega
      go_in
      go_wp2
      go_ret
      exact ⟨rfl, Below.refl _ _⟩
    · have hI : ¬ (l.length : Int) < 1 := by omega
      have hJ : (40 : Int) < (l.length : Int) := by
        rw [inB, decide_eq_false_iff_not] at hl; omega
      go_in
      go_wp2
      go_ret
      exact ⟨rfl, Below.refl _ _⟩
  · have hb := inB_t hl
    have hI : ¬ (l.length : Int) < 1 := by omega
    have hJ : ¬ (40 : Int) < (l.length : Int) := by omega
    go_in
    go_wp2
    go_loopw [17] (fun i wr => ∃ k : Nat, k ≤ l.length ∧ i = .int .i64 k ∧ Hid (∀ j, j < k → okCh st l j = true) ∧ Below w.heap.size w wr) (fun i _ => l.length - (intOf i).toNat)
    case atStart => exact ⟨0, Nat.zero_le _, rfl, Lib.hid (fun j hj => absurd hj (by omega)), Below.refl _ _⟩
    case round =>
      obtain ⟨k, hk, rfl, HK, hb⟩ := hrel
      by_cases hlt : k < l.length
      · obtain ⟨b1, o1, y, rfl, _, hy, hcy⟩ := (h.below hb (Nat.le_refl _)).at_str hlt
        have hys := HS.out y (List.mem_of_getElem? hy)
        have E := Lib.hid (okCh_at (n := st) hy)
        clear hy h
        go_wp2_with fail
        refine (impl_GoodChange hys).mono ?_; rintro e w1 ⟨rfl, hb1⟩
        have hbt := below_go hb hb1
        rcases hg : goodChange st y
        · have e1 := Lib.hid (show allCh st l = false by rw [HQ.out]; exact all_no hlt (by rw [E.out, hg]))
          go_wp2
          go_ret
          rw [e1.out]
          exact ⟨rfl, hbt⟩
        · have e1 := Lib.hid (show okCh st l k = true by rw [E.out, hg])
          go_wp2
          go_roundw
          case rel => exact ⟨k + 1, by omega, by go_num, Lib.hid (upto_succ HK.out e1.out), hbt⟩
          case measure => simp [intOf]; omega
      · obtain rfl : k = l.length := by omega
        have e1 := Lib.hid (show allCh st l = true by rw [HQ.out]; exact all_yes (fun j hj => HK.out j hj))
        go_wp2
        go_ret
        rw [e1.out]
        exact ⟨rfl, hb⟩
theorem impl_GoodMethod {A : Option Addr} {n c : Nat} {nm : ByteArray} {st : Int} {l : List ByteArray} {w : World} (hn : l.length = n) (h : Strs w A l) (hz : n ≤ 1048576) (hs : ∀ s ∈ l, s.size ≤ 16777216) (hnm : nm.size ≤ 16777216) (hst : I64 st) :
    Calls Try.prog 130 #[.agg #[.string nm, .int .i64 st, .slice A n c]] w fun e w' => e = .returned (.bool (goodM nm st l)) ∧ Below w.heap.size w w' := by
  subst hn
  have HQ : Hid (goodM nm st l = (nameOk nm && (inB st 3 8 && (inB l.length 1 40 && allCh st l)))) := Lib.hid rfl
  have b0 : Below w.heap.size w (w.alloc (.cells ⟨[.string nm, .int .i64 st, .slice A l.length c]⟩ 42)) := by (repeat' (first | (with_reducible exact Below.refl _ _) | (with_reducible assumption) | (with_reducible refine below_drewN ?_ _) | (with_reducible refine Below.drew ?_) | (with_reducible refine below_alloc ?_ _) | (with_reducible refine Below.alloc ?_ ?_ _) | (with_reducible refine Below.setCell ?_ ?_ _) | (with_reducible refine below_go ?_ (by with_reducible assumption)) | (with_reducible refine below_then (by with_reducible assumption) ?_ ?_) | go_size))
  rcases hN : nameOk nm
  · have e1 := Lib.hid (show goodM nm st l = false by rw [HQ.out, hN]; rfl)
    go_in
    go_wp2_with fail
    refine (impl_isWord hnm).mono ?_; rw [hN]; rintro e w' ⟨rfl, rfl⟩
    go_wp2
    go_ret
    rw [e1.out]
    exact ⟨rfl, b0⟩
  · have e1 := Lib.hid (show goodM nm st l = (inB l.length 1 40 && allCh st l) by
      rw [HQ.out, hN]
      rcases hI : inB st 3 8
      · rcases hl : inB l.length 1 40
        · rfl
        · have := inB_t hl
          have : allCh st l = false := all_no (k := 0) (by omega) (by
            obtain ⟨x, hx⟩ := some_of_lt (l := l) (k := 0) (by omega)
            rw [okCh_at hx]; exact goodChange_stage hI)
          rw [this]; rfl
      · rfl)
    go_in
    go_wp2_with fail
    refine (impl_isWord hnm).mono ?_; rw [hN]; rintro e w' ⟨rfl, rfl⟩
    go_wp2_with fail
    refine (impl_areChanges rfl (h.up b0) hz hs hst).mono ?_; rintro e w1 ⟨rfl, hb1⟩
    go_wp2
    go_ret
    rw [e1.out]
    exact ⟨rfl, below_go b0 hb1⟩
theorem goodM_tail {nm : ByteArray} {st : Int} {l : List ByteArray} (ha : allCh st l = true) : goodM nm st l = (nameOk nm && (inB st 3 8 && inB l.length 1 40)) := by
  rw [goodM, ha, Bool.and_true]
theorem goodM_bad {nm : ByteArray} {st : Int} {l : List ByteArray} (ha : allCh st l = false) : goodM nm st l = false := by
  rw [goodM, ha, Bool.and_false, Bool.and_false, Bool.and_false]
set_option maxHeartbeats 1000000 in
set_option maxRecDepth 100000 in
theorem spec_l4Good {A : Option Addr} {n c : Nat} {nm : ByteArray} {st : Int} {l : List ByteArray} {w : World} (hn : l.length = n) (h : Strs w A l) (hz : n ≤ 1048576) (hs : ∀ s ∈ l, s.size ≤ 16777216) (hnm : nm.size ≤ 16777216) (hst : I64 st) :
    Calls Try.prog 137 #[.agg #[.string nm, .int .i64 st, .slice A n c]] w fun e w' => e = .returned (.bool (goodM nm st l)) ∧ Below w.heap.size w w' := by
  subst hn
  have HS := Lib.hid hs
  have HQ : Hid (allCh st l = (List.range l.length).all (okCh st l)) := Lib.hid rfl
  have b0 : Below w.heap.size w (w.alloc (.cells ⟨[.string nm, .int .i64 st, .slice A l.length c]⟩ 42)) := by (repeat' (first | (with_reducible exact Below.refl _ _) | (with_reducible assumption) | (with_reducible refine below_drewN ?_ _) | (with_reducible refine Below.drew ?_) | (with_reducible refine below_alloc ?_ _) | (with_reducible refine Below.alloc ?_ ?_ _) | (with_reducible refine Below.setCell ?_ ?_ _) | (with_reducible refine below_go ?_ (by with_reducible assumption)) | (with_reducible refine below_then (by with_reducible assumption) ?_ ?_) | go_size))
  have K0 := Blk.at_ w 42 [.string nm, .int .i64 st, .slice A l.length c] (b := w.heap.size) rfl
  have h := h.up b0
  clear hs
  go_in
  go_wp2
  obtain ⟨w0, hw0⟩ : ∃ u, u = (w.alloc (.cells #[.string nm, .int .i64 st, .slice A l.length c] 42)) := ⟨_, rfl⟩
  rw [← hw0] at b0 K0 h ⊢
  clear hw0
  have k0 := K0.cell 0; have k1 := K0.cell 1; have k2 := K0.cell 2
  simp only [List.getElem?_cons_zero, List.getElem?_cons_succ] at k0 k1 k2
  go_loopw [8] (fun i wr => ∃ k : Nat, k ≤ l.length ∧ i = .int .i64 k ∧ Hid (∀ j, j < k → okCh st l j = true) ∧ w0 = wr) (fun i _ => l.length - (intOf i).toNat)
  case atStart => exact ⟨0, Nat.zero_le _, rfl, Lib.hid (fun j hj => absurd hj (by omega)), rfl⟩
  case round =>
    obtain ⟨k, hk, rfl, HK, rfl⟩ := hrel
    by_cases hlt : k < l.length
    · obtain ⟨b1, o1, y, rfl, _, hy, hcy⟩ := h.at_str hlt
      have hys := HS.out y (List.mem_of_getElem? hy)
      have E := Lib.hid (okCh_at (n := st) hy)
      clear hy h
      go_wp2_with fail
      refine (spec_l2Change hys hst).mono ?_; rintro e w' ⟨rfl, rfl⟩
      rcases hg : goodChange st y
      · have e1 := Lib.hid (show goodM nm st l = false from goodM_bad (by rw [HQ.out]; exact all_no hlt (by rw [E.out, hg])))
        go_wp2
        go_ret
        rw [e1.out]
        exact ⟨rfl, b0⟩
      · have e1 := Lib.hid (show okCh st l k = true by rw [E.out, hg])
        go_wp2
        go_roundw
        case rel => exact ⟨k + 1, by omega, by go_num, Lib.hid (upto_succ HK.out e1.out), trivial⟩
        case measure => simp [intOf]; omega
    · obtain rfl : k = l.length := by omega
      have e1 := Lib.hid (show goodM nm st l = (nameOk nm && (inB st 3 8 && inB l.length 1 40)) from goodM_tail (by rw [HQ.out]; exact all_yes (fun j hj => HK.out j hj)))
      go_wp2_with fail
      refine (spec_l4Name hnm).mono ?_; rintro e w' ⟨rfl, rfl⟩
      rcases h1 : nameOk nm
      · have e2 := Lib.hid (show goodM nm st l = false by rw [e1.out, h1]; rfl)
        go_wp2
        go_ret
        rw [e2.out]
        exact ⟨rfl, b0⟩
      · go_wp2_with fail
        refine (spec_l1In _ _ _ _).mono ?_; rintro e w' ⟨rfl, rfl⟩
        rcases h2 : inB st 3 8
        · have e2 := Lib.hid (show goodM nm st l = false by rw [e1.out, h1, h2]; rfl)
          go_wp2
          go_ret
          rw [e2.out]
          exact ⟨rfl, b0⟩
        · have e2 := Lib.hid (show goodM nm st l = inB l.length 1 40 by rw [e1.out, h1, h2]; rfl)
          go_wp2_with fail
          refine (spec_l1In _ _ _ _).mono ?_; rintro e w' ⟨rfl, rfl⟩
          go_wp2
          go_ret
          rw [e2.out]
          exact ⟨rfl, b0⟩
set_option maxHeartbeats 1000000 in
theorem impl_GoodCalls {A : Option Addr} {n c : Nat} {nm : ByteArray} {st : Int} {l : List ByteArray} {kb ks : ByteArray} {w : World} (hn : l.length = n) (h : Strs w A l) (hz : n ≤ 1048576) (hs : ∀ s ∈ l, s.size ≤ 16777216) (hnm : nm.size ≤ 16777216) (hst : I64 st) (hkb : kb.size ≤ 16777216) (hks : ks.size ≤ 16777216) :
    Calls Try.prog 83 #[.agg #[.string nm, .int .i64 st, .slice A n c], .agg #[.string kb, .string ks]] w fun e w' => e = .returned (.bool (goodK nm st l kb ks)) ∧ Below w.heap.size w w' := by
  have HQ : Hid (goodK nm st l kb ks = (goodM nm st l && (goodChange st kb && goodChange st ks))) := Lib.hid rfl
  have b0 : Below w.heap.size w ((w.alloc (.cells ⟨[.string nm, .int .i64 st, .slice A n c]⟩ 42)).alloc (.cells ⟨[.string kb, .string ks]⟩ 44)) := by (repeat' (first | (with_reducible exact Below.refl _ _) | (with_reducible assumption) | (with_reducible refine below_drewN ?_ _) | (with_reducible refine Below.drew ?_) | (with_reducible refine below_alloc ?_ _) | (with_reducible refine Below.alloc ?_ ?_ _) | (with_reducible refine Below.setCell ?_ ?_ _) | (with_reducible refine below_go ?_ (by with_reducible assumption)) | (with_reducible refine below_then (by with_reducible assumption) ?_ ?_) | go_size))
  have K0 := (Blk.at_ w 42 [.string nm, .int .i64 st, .slice A n c] (b := w.heap.size) rfl).alloc (.cells ⟨[.string kb, .string ks]⟩ 44)
  have K1 := Blk.at_ (w.alloc (.cells ⟨[.string nm, .int .i64 st, .slice A n c]⟩ 42)) 44 [.string kb, .string ks] (b := w.heap.size + 1) (by simp)
  go_in
  go_wp2_with fail
  obtain ⟨w0, hw0⟩ : ∃ u, u = ((w.alloc (.cells #[.string nm, .int .i64 st, .slice A n c] 42)).alloc (.cells #[.string kb, .string ks] 44)) := ⟨_, rfl⟩
  rw [← hw0] at b0 K0 K1 ⊢
  clear hw0
  refine (impl_GoodMethod hn (h.up b0) hz hs hnm hst).mono ?_; rintro e w1 ⟨rfl, hb1⟩
  have hB1 := below_go b0 hb1
  rcases h1 : goodM nm st l
  · have e1 := Lib.hid (show goodK nm st l kb ks = false by rw [HQ.out, h1]; rfl)
    go_wp2
    go_ret
    rw [e1.out]
    exact ⟨rfl, hB1⟩
  have K0 := K0.up hb1; have K1 := K1.up hb1
  have k1 := K0.cell 1; have q0 := K1.cell 0
  simp only [List.getElem?_cons_zero, List.getElem?_cons_succ] at k1 q0
  go_wp2_with fail
  refine (impl_GoodChange hkb).mono ?_; rintro e w2 ⟨rfl, hb2⟩
  have hB2 := below_go hB1 hb2
  rcases h2 : goodChange st kb
  · have e1 := Lib.hid (show goodK nm st l kb ks = false by rw [HQ.out, h1, h2]; rfl)
    go_wp2
    go_ret
    rw [e1.out]
    exact ⟨rfl, hB2⟩
  have K0 := K0.up hb2; have K1 := K1.up hb2
  have k2 := K0.cell 1; have q1 := K1.cell 1
  simp only [List.getElem?_cons_zero, List.getElem?_cons_succ] at k2 q1
  clear k1 q0
  go_wp2_with fail
  refine (impl_GoodChange hks).mono ?_; rintro e w3 ⟨rfl, hb3⟩
  have e1 := Lib.hid (show goodK nm st l kb ks = goodChange st ks by rw [HQ.out, h1, h2]; rfl)
  go_wp2
  go_ret
  rw [e1.out]
  exact ⟨rfl, below_go hB2 hb3⟩
set_option maxHeartbeats 1000000 in
theorem spec_l8Good {A : Option Addr} {n c : Nat} {nm : ByteArray} {st : Int} {l : List ByteArray} {kb ks : ByteArray} {w : World} (hn : l.length = n) (h : Strs w A l) (hz : n ≤ 1048576) (hs : ∀ s ∈ l, s.size ≤ 16777216) (hnm : nm.size ≤ 16777216) (hst : I64 st) (hkb : kb.size ≤ 16777216) (hks : ks.size ≤ 16777216) :
    Calls Try.prog 166 #[.agg #[.string nm, .int .i64 st, .slice A n c], .agg #[.string kb, .string ks]] w fun e w' => e = .returned (.bool (goodK nm st l kb ks)) ∧ Below w.heap.size w w' := by
  have HQ : Hid (goodK nm st l kb ks = (goodM nm st l && (goodChange st kb && goodChange st ks))) := Lib.hid rfl
  have b0 : Below w.heap.size w ((w.alloc (.cells ⟨[.string nm, .int .i64 st, .slice A n c]⟩ 42)).alloc (.cells ⟨[.string kb, .string ks]⟩ 44)) := by (repeat' (first | (with_reducible exact Below.refl _ _) | (with_reducible assumption) | (with_reducible refine below_drewN ?_ _) | (with_reducible refine Below.drew ?_) | (with_reducible refine below_alloc ?_ _) | (with_reducible refine Below.alloc ?_ ?_ _) | (with_reducible refine Below.setCell ?_ ?_ _) | (with_reducible refine below_go ?_ (by with_reducible assumption)) | (with_reducible refine below_then (by with_reducible assumption) ?_ ?_) | go_size))
  have K0 := (Blk.at_ w 42 [.string nm, .int .i64 st, .slice A n c] (b := w.heap.size) rfl).alloc (.cells ⟨[.string kb, .string ks]⟩ 44)
  have K1 := Blk.at_ (w.alloc (.cells ⟨[.string nm, .int .i64 st, .slice A n c]⟩ 42)) 44 [.string kb, .string ks] (b := w.heap.size + 1) (by simp)
  go_in
  go_wp2_with fail
  obtain ⟨w0, hw0⟩ : ∃ u, u = ((w.alloc (.cells #[.string nm, .int .i64 st, .slice A n c] 42)).alloc (.cells #[.string kb, .string ks] 44)) := ⟨_, rfl⟩
  rw [← hw0] at b0 K0 K1 ⊢
  clear hw0
  refine (spec_l4Good hn (h.up b0) hz hs hnm hst).mono ?_; rintro e w1 ⟨rfl, hb1⟩
  have hB1 := below_go b0 hb1
  rcases h1 : goodM nm st l
  · have e1 := Lib.hid (show goodK nm st l kb ks = false by rw [HQ.out, h1]; rfl)
    go_wp2
    go_ret
    rw [e1.out]
    exact ⟨rfl, hB1⟩
  have K0 := K0.up hb1; have K1 := K1.up hb1
  have k1 := K0.cell 1; have q0 := K1.cell 0; have q1 := K1.cell 1
  simp only [List.getElem?_cons_zero, List.getElem?_cons_succ] at k1 q0 q1
  go_wp2_with fail
  refine (spec_l2Change hkb hst).mono ?_; rintro e w' ⟨rfl, rfl⟩
  rcases h2 : goodChange st kb
  · have e1 := Lib.hid (show goodK nm st l kb ks = false by rw [HQ.out, h1, h2]; rfl)
    go_wp2
    go_ret
    rw [e1.out]
    exact ⟨rfl, hB1⟩
  go_wp2_with fail
  refine (spec_l2Change hks hst).mono ?_; rintro e w' ⟨rfl, rfl⟩
  have e1 := Lib.hid (show goodK nm st l kb ks = goodChange st ks by rw [HQ.out, h1, h2]; rfl)
  go_wp2
  go_ret
  rw [e1.out]
  exact ⟨rfl, hB1⟩
theorem spec_GoodCalls {A : Option Addr} {n c : Nat} {nm : ByteArray} {st : Int} {l : List ByteArray} {kb ks : ByteArray} {w : World} (hn : l.length = n) (h : Strs w A l) (hz : n ≤ 1048576) (hs : ∀ s ∈ l, s.size ≤ 16777216) (hnm : nm.size ≤ 16777216) (hst : I64 st) (hkb : kb.size ≤ 16777216) (hks : ks.size ≤ 16777216) :
    Calls Try.prog 138 #[.agg #[.string nm, .int .i64 st, .slice A n c], .agg #[.string kb, .string ks]] w fun e w' => e = .returned (.bool (goodK nm st l kb ks)) ∧ Below w.heap.size w w' := by
  have b0 : Below w.heap.size w ((w.alloc (.cells ⟨[.string nm, .int .i64 st, .slice A n c]⟩ 42)).alloc (.cells ⟨[.string kb, .string ks]⟩ 44)) := by (repeat' (first | (with_reducible exact Below.refl _ _) | (with_reducible assumption) | (with_reducible refine below_drewN ?_ _) | (with_reducible refine Below.drew ?_) | (with_reducible refine below_alloc ?_ _) | (with_reducible refine Below.alloc ?_ ?_ _) | (with_reducible refine Below.setCell ?_ ?_ _) | (with_reducible refine below_go ?_ (by with_reducible assumption)) | (with_reducible refine below_then (by with_reducible assumption) ?_ ?_) | go_size))
  go_in
  go_wp2_with fail
  refine (spec_l8Good hn (h.up b0) hz hs hnm hst hkb hks).mono ?_; rintro e w1 ⟨rfl, hb1⟩
  go_wp2
  go_ret
  exact ⟨rfl, below_go b0 hb1⟩
theorem impl_isCall {s : ByteArray} {w : World} :
    Calls Try.prog 201 #[.string s] w fun e w' => e = .returned (.bool (isCl s)) ∧ w = w' := by
  have HQ : Hid (isCl s = (isP s || (isB s || isS s))) := Lib.hid rfl
  rcases h1 : isP s <;> rcases h2 : isB s <;> rcases h3 : isS s
  all_goals
    have e1 := HQ.out
    rw [h1, h2, h3] at e1
    have E1 := Lib.hid e1
    have a1 := Lib.hid h1; have a2 := Lib.hid h2; have a3 := Lib.hid h3
    clear e1 h1 h2 h3
    have g1 : (s.toList == [112]) = _ := a1.out
    have g2 : (s.toList == [98]) = _ := a2.out
    have g3 : (s.toList == [115]) = _ := a3.out
    go_in
    go_wp2
    go_ret
    rw [E1.out]
    exact ⟨rfl, rfl⟩
theorem spec_l8Call {s : ByteArray} {w : World} :
    Calls Try.prog 169 #[.string s] w fun e w' => e = .returned (.bool (isCl s)) ∧ w = w' := by
  have HQ : Hid (isCl s = (isP s || (isB s || isS s))) := Lib.hid rfl
  rcases h1 : isP s <;> rcases h2 : isB s <;> rcases h3 : isS s
  all_goals
    have e1 := HQ.out
    rw [h1, h2, h3] at e1
    have E1 := Lib.hid e1
    have a1 := Lib.hid h1; have a2 := Lib.hid h2; have a3 := Lib.hid h3
    clear e1 h1 h2 h3
    have g1 : (s.toList == [112]) = _ := a1.out
    have g2 : (s.toList == [98]) = _ := a2.out
    have g3 : (s.toList == [115]) = _ := a3.out
    go_in
    go_wp2
    go_ret
    rw [E1.out]
    exact ⟨rfl, rfl⟩
theorem spec_l8Asked {A : Option Addr} {n c : Nat} {nm : ByteArray} {st : Int} {l : List ByteArray} {kb ks : ByteArray} {s : ByteArray} {w : World} (hn : l.length = n) (h : Strs w A l) (hz : n ≤ 1048576) (hs : ∀ s ∈ l, s.size ≤ 16777216) (hnm : nm.size ≤ 16777216) (hst : I64 st) (hkb : kb.size ≤ 16777216) (hks : ks.size ≤ 16777216) :
    Calls Try.prog 203 #[.agg #[.string nm, .int .i64 st, .slice A n c], .agg #[.string kb, .string ks], .string s] w fun e w' => e = .returned (.bool (goodK nm st l kb ks && isCl s)) ∧ Below w.heap.size w w' := by
  have b0 : Below w.heap.size w ((w.alloc (.cells ⟨[.string nm, .int .i64 st, .slice A n c]⟩ 42)).alloc (.cells ⟨[.string kb, .string ks]⟩ 44)) := by (repeat' (first | (with_reducible exact Below.refl _ _) | (with_reducible assumption) | (with_reducible refine below_drewN ?_ _) | (with_reducible refine Below.drew ?_) | (with_reducible refine below_alloc ?_ _) | (with_reducible refine Below.alloc ?_ ?_ _) | (with_reducible refine Below.setCell ?_ ?_ _) | (with_reducible refine below_go ?_ (by with_reducible assumption)) | (with_reducible refine below_then (by with_reducible assumption) ?_ ?_) | go_size))
  go_in
  go_wp2_with fail
  refine (spec_l8Good hn (h.up b0) hz hs hnm hst hkb hks).mono ?_; rintro e w1 ⟨rfl, hb1⟩
  rcases h1 : goodK nm st l kb ks
  · go_wp2
    go_ret
    exact ⟨ret_bool (by rw [h1]; rfl), below_go b0 hb1⟩
  · go_wp2_with fail
    refine spec_l8Call.mono ?_; rintro e w' ⟨rfl, rfl⟩
    go_wp2
    go_ret
    exact ⟨ret_bool (by rw [h1]; rfl), below_go b0 hb1⟩
end Go.Proofs.Ytmdmnjjlpefigaa
/- The walks through called leads and their heads, both sides. -/
namespace Go.Proofs.Ytmdmnjjlpefigaa
set_option linter.unusedVariables false
set_option linter.unusedSimpArgs false
open Go.ChangeShapes Go.WideShapes Go.ChangeAt Go.RowKit Go.Deep
theorem lit_app_drew {w w' : World} {o : Obj} {n c : Nat} (hg : (w.alloc o).drew.grownBy w' (Value.slice (some ⟨w.heap.size, 0, none⟩) n c).ownBlock) : Below w.heap.size w w' :=
  (((Below.refl _ _).alloc (Nat.le_refl _) _).drew).trans (grown_base hg (by simp) (fun k hk => by injection hk with hk; dsimp only at hk; omega))
theorem lit_app_drew2 {w w' : World} {o o' : Obj} {n c : Nat} (hg : ((w.alloc o).alloc o').drew.grownBy w' (Value.slice (some ⟨w.heap.size, 0, none⟩) n c).ownBlock) : Below w.heap.size w w' :=
  ((((Below.refl _ _).alloc (Nat.le_refl _) _).alloc (by simp) _).drew).trans (grown_base hg (by simp; omega) (fun k hk => by injection hk with hk; dsimp only at hk; omega))
theorem lit_app_drew3 {w w' : World} {o o' : Obj} {n c : Nat} (hg : ((w.alloc o).alloc o').drew.grownBy w' (Value.slice (some ⟨w.heap.size + 1, 0, none⟩) n c).ownBlock) : Below w.heap.size w w' :=
  ((((Below.refl _ _).alloc (Nat.le_refl _) _).alloc (by simp) _).drew).trans (grown_base hg (by simp; omega) (fun k hk => by injection hk with hk; dsimp only at hk; omega))
theorem impl_withChanges {A : Option Addr} {n c : Nat} {nm : ByteArray} {st : Int} {w : World} {B : Option Addr} {m d : Nat} :
    Calls Try.prog 202 #[.agg #[.string nm, .int .i64 st, .slice A n c], .slice B m d] w fun e w' => e = .returned (.agg #[.string nm, .int .i64 st, .slice B m d]) ∧ Below w.heap.size w w' := by
  go_in
  go_wp2
  refine bodyPost_ret (v := .agg #[.string nm, .int .i64 st, .slice B m d]) (by simp [results, Try.results202, go_sem]) rfl ?_
  exact ⟨rfl, by (repeat' (first | (with_reducible exact Below.refl _ _) | (with_reducible assumption) | (with_reducible refine below_drewN ?_ _) | (with_reducible refine Below.drew ?_) | (with_reducible refine below_alloc ?_ _) | (with_reducible refine Below.alloc ?_ ?_ _) | (with_reducible refine Below.setCell ?_ ?_ _) | (with_reducible refine below_go ?_ (by with_reducible assumption)) | (with_reducible refine below_then (by with_reducible assumption) ?_ ?_) | go_size))⟩
theorem Owned.ne_blk {α : Type} {e : α → List Value} {s : Nat} {E : TypeId} {w : World} {base : Nat} {A : Option Addr} {n c : Nat} {l : List α} {p : Nat} {t : TypeId} {cs : List Value} (h : Owned e s E w base A n c l) (k : Blk w p t cs) (hE : E ≠ t) : ∀ q, (Value.slice A n c).ownBlock = some q → q ≠ p := by
  intro q hq e2
  rcases h.2.2.2 with ⟨hv, _⟩ | ⟨g, cap, cur, hv, _, hh, _⟩
  · rw [hv] at hq; cases hq
  · rw [hv] at hq
    injection hq with hq
    dsimp only at hq
    subst hq; subst e2
    unfold Blk at k
    rw [hh] at k
    injection k with k
    injection k with _ e3 _
    exact hE e3
theorem lead_fin {w0 w3 : World} {p base : Nat} {A2 : Option Addr} {n c2 : Nat} {l : List ByteArray} {nm : ByteArray} {st : Int} (KZ : Blk w3 p 42 [.string { data := #[] }, .int .i64 0, .slice none 0 0]) (ho : Owned strE 1 9 w3 base A2 n c2 l) (C3 : Below w0.heap.size w0 w3) (hp : w0.heap.size ≤ p) :
    Blk (((w3.setCell ⟨p, 0, none⟩ (.string nm)).setCell ⟨p, 1, none⟩ (.int .i64 st)).setCell ⟨p, 2, none⟩ (.slice A2 n c2)) p 42 [.string nm, .int .i64 st, .slice A2 n c2] ∧
      Owned strE 1 9 (((w3.setCell ⟨p, 0, none⟩ (.string nm)).setCell ⟨p, 1, none⟩ (.int .i64 st)).setCell ⟨p, 2, none⟩ (.slice A2 n c2)) base A2 n c2 l ∧
      Below w0.heap.size w0 (((w3.setCell ⟨p, 0, none⟩ (.string nm)).setCell ⟨p, 1, none⟩ (.int .i64 st)).setCell ⟨p, 2, none⟩ (.slice A2 n c2)) := by
  have hne := ho.ne_blk KZ (by decide)
  have g : w3.grownBy (((w3.setCell ⟨p, 0, none⟩ (.string nm)).setCell ⟨p, 1, none⟩ (.int .i64 st)).setCell ⟨p, 2, none⟩ (.slice A2 n c2)) (some p) :=
    grownBy_trans (grownBy_trans (only_set w3 (p := ⟨p, 0, none⟩) _) (only_set _ (p := ⟨p, 1, none⟩) _)) (only_set _ (p := ⟨p, 2, none⟩) _)
  exact ⟨((KZ.set_ 0 _).set_ 1 _).set_ 2 _, ho.kept g (fun k hk e => hne k hk (by injection e with e; exact e.symm)), ((C3.setCell (p := ⟨p, 0, none⟩) hp _).setCell (p := ⟨p, 1, none⟩) hp _).setCell (p := ⟨p, 2, none⟩) hp _⟩
set_option maxHeartbeats 1000000 in
set_option maxRecDepth 100000 in
theorem impl_calledLead {A : Option Addr} {n c : Nat} {nm : ByteArray} {st : Int} {l : List ByteArray} {kb ks : ByteArray} {s : ByteArray} {w : World} (hn : l.length = n) (h : Strs w A l) (hz : n ≤ 1048576) (hs : ∀ s ∈ l, s.size ≤ 16777216) (hnm : nm.size ≤ 16777216) (hst : I64 st) (h0 : 0 < n) :
    Calls Try.prog 174 #[.agg #[.string nm, .int .i64 st, .slice A n c], .agg #[.string kb, .string ks], .string s] w fun e w' => ∃ A' c', e = .returned (.agg #[.string nm, .int .i64 st, .slice A' n c']) ∧ Owned strE 1 9 w' w.heap.size A' n c' (l.set (n - 1) (chOf l kb ks s)) ∧ Below w.heap.size w w' := by
  obtain ⟨m, rfl⟩ : ∃ m, n = m + 1 := ⟨n - 1, by omega⟩
  have HN := Lib.hid hn
  clear hn
  have b0 : Below w.heap.size w (((w.alloc (.cells ⟨[.string nm, .int .i64 st, .slice A (m + 1) c]⟩ 42)).alloc (.cells ⟨[.string kb, .string ks]⟩ 44)).alloc (.cells ⟨[.string { data := #[] }, .int .i64 0, .slice none 0 0]⟩ 42)) := by (repeat' (first | (with_reducible exact Below.refl _ _) | (with_reducible assumption) | (with_reducible refine below_drewN ?_ _) | (with_reducible refine Below.drew ?_) | (with_reducible refine below_alloc ?_ _) | (with_reducible refine Below.alloc ?_ ?_ _) | (with_reducible refine Below.setCell ?_ ?_ _) | (with_reducible refine below_go ?_ (by with_reducible assumption)) | (with_reducible refine below_then (by with_reducible assumption) ?_ ?_) | go_size))
  have K0 := ((Blk.at_ w 42 [.string nm, .int .i64 st, .slice A (m + 1) c] (b := w.heap.size) rfl).alloc (.cells ⟨[.string kb, .string ks]⟩ 44)).alloc (.cells ⟨[.string { data := #[] }, .int .i64 0, .slice none 0 0]⟩ 42)
  have K1 := (Blk.at_ (w.alloc (.cells ⟨[.string nm, .int .i64 st, .slice A (m + 1) c]⟩ 42)) 44 [.string kb, .string ks] (b := w.heap.size + 1) (by simp)).alloc (.cells ⟨[.string { data := #[] }, .int .i64 0, .slice none 0 0]⟩ 42)
  have K2 := Blk.at_ ((w.alloc (.cells ⟨[.string nm, .int .i64 st, .slice A (m + 1) c]⟩ 42)).alloc (.cells ⟨[.string kb, .string ks]⟩ 44)) 42 [.string { data := #[] }, .int .i64 0, .slice none 0 0] (b := w.heap.size + 1 + 1) (by simp)
  go_in
  go_upto_region 1 with fail
  obtain ⟨w0, hw0⟩ : ∃ u, u = (((w.alloc (.cells #[.string nm, .int .i64 st, .slice A (m + 1) c] 42)).alloc (.cells #[.string kb, .string ks] 44)).alloc (.cells #[.string { data := #[] }, .int .i64 0, .slice none 0 0] 42)) := ⟨_, rfl⟩
  have sz0 : w0.heap.size = w.heap.size + 1 + 1 + 1 := by rw [hw0]; simp
  have sz0' : w0.heap.size ≤ w.heap.size + 3 := by omega
  have sz0'' : w.heap.size + 3 ≤ w0.heap.size := by omega
  rw [← hw0] at b0 K0 K1 K2 ⊢
  clear hw0 sz0
  have carry : Hid (∀ u : World, Below w0.heap.size w0 u → u.cell? ⟨w.heap.size, 0, none⟩ = some (.string nm) ∧ u.cell? ⟨w.heap.size, 1, none⟩ = some (.int .i64 st) ∧ u.cell? ⟨w.heap.size, 2, none⟩ = some (.slice A (m + 1) c)) := Lib.hid (fun u hu => by
    have L0 := K0.up hu
    exact ⟨by simpa using L0.cell 0, by simpa using L0.cell 1, by simpa using L0.cell 2⟩)
  have hr := Lib.hid (h.up b0)
  have HOV : Hid (Owned strE 1 9 ((w0.alloc (.cells #[.string { data := #[] }, .int .i64 0, .slice none 0 0] 42)).alloc (.cells #[] 9)) w0.heap.size (some ⟨w0.heap.size + 1, 0, none⟩) 0 0 ([] : List ByteArray)) := Lib.hid (by have q := Owned.empty (E := 9) strE_len (w0.alloc (.cells #[.string { data := #[] }, .int .i64 0, .slice none 0 0] 42)) (base := w0.heap.size) (by simp); simpa using q)
  go_cut [7] (fun s7 wx => ∃ (p : Nat) (A2 : Option Addr) (c2 : Nat), s7 = .pointer (some ⟨p, 0, none⟩) ∧ w0.heap.size ≤ p ∧ Blk wx p 42 [.string nm, .int .i64 st, .slice A2 (m + 1) c2] ∧ Owned strE 1 9 wx w0.heap.size A2 (m + 1) c2 l ∧ Below w0.heap.size w0 wx)
  case first =>
    go_region_held3 (fun u => u.cell? ⟨w.heap.size, 0, none⟩ = some (.string nm) ∧ u.cell? ⟨w.heap.size, 1, none⟩ = some (.int .i64 st) ∧ u.cell? ⟨w.heap.size, 2, none⟩ = some (.slice A (m + 1) c)) (first | exact carry.out _ C3 | exact carry.out _ (C3.alloc C3.size _) | exact carry.out _ (((C3.setCell (p := ⟨w2.heap.size, 0, none⟩) C2.size _).setCell (p := ⟨w2.heap.size, 1, none⟩) C2.size _).setCell (p := ⟨w2.heap.size, 2, none⟩) C2.size _) | exact carry.out _ (((C3.setCell (p := ⟨w0.heap.size + 1, 0, none⟩) (Nat.le_succ _) _).setCell (p := ⟨w0.heap.size + 1, 1, none⟩) (Nat.le_succ _) _).setCell (p := ⟨w0.heap.size + 1, 2, none⟩) (Nat.le_succ _) _) | exact carry.out _ (((C3.setCell (p := ⟨w0.heap.size, 0, none⟩) (Nat.le_refl _) _).setCell (p := ⟨w0.heap.size, 1, none⟩) (Nat.le_refl _) _).setCell (p := ⟨w0.heap.size, 2, none⟩) (Nat.le_refl _) _) | exact carry.out _ ((((Below.refl _ _).alloc (Nat.le_refl _) _).alloc (by simp) _).drew) | exact carry.out _ C2 | exact carry.out _ (C2.alloc C2.size _) | exact carry.out _ (((Below.refl _ _).alloc (Nat.le_refl _) _).drew) | exact carry.out _ (Below.refl _ _).drew) (first | (go_at_call 202; refine impl_withChanges.mono ?_; rintro e w3 ⟨rfl, hb3⟩; have KZ := KZ2.up hb3; have C3 := C2.trans (hb3.mono C2.size); have z0 := KZ.cell 0; have z1 := KZ.cell 1; have z2 := KZ.cell 2; simp only [List.getElem?_cons_zero, List.getElem?_cons_succ] at z0 z1 z2; have f0 := KZ.frozen 0; have f1 := KZ.frozen 1; have f2 := KZ.frozen 2) | (go_at_call 202; refine impl_withChanges.mono ?_; rintro e w3 ⟨rfl, hb3⟩; have C3 := C2.trans (hb3.mono C2.size)) | (go_at_call 202; refine impl_withChanges.mono ?_; rintro e w3 ⟨rfl, hb3⟩; have C3 := (C2.alloc C2.size _).trans (hb3.mono (by simp; have := C2.size; omega)); have KZ := (Blk.at_ w2 42 [.string { data := #[] }, .int .i64 0, .slice none 0 0] (b := w2.heap.size) rfl).up hb3; have z0 := KZ.cell 0; have z1 := KZ.cell 1; have z2 := KZ.cell 2; simp only [List.getElem?_cons_zero, List.getElem?_cons_succ] at z0 z1 z2; have f0 := KZ.frozen 0; have f1 := KZ.frozen 1; have f2 := KZ.frozen 2) | (refine step_append_recs Try.elStr strE_one rfl (.tmp 10) (.tmp 12) rfl (by rfl) (Owned.empty (E := 9) strE_len w0 (Nat.le_refl _)).drew (by rfl) ((hr.out.alloc _).drew) HN.out ?_ (by decide) ?_ ?_; (focus (first | omega | (simp only [World.size_alloc]; done) | (simp only [World.size_alloc]; omega) | (simp; done) | (simp; omega))); (focus (first | omega | (simp only [World.size_alloc]; done) | (simp only [World.size_alloc]; omega) | (simp; done) | (simp; omega))); intro A2 c2 w2 ho2 hg2 hl2; have ho2' : Owned strE 1 9 w2 w0.heap.size A2 (m + 1) c2 l := (by simpa using ho2); have C2 := lit_app_drew hg2) | (refine step_append_recs Try.elStr strE_one rfl (.tmp 10) (.tmp 12) rfl (by rfl) ((Owned.empty (E := 9) strE_len w0 (Nat.le_refl _)).alloc (.cells #[.string { data := #[] }, .int .i64 0, .slice none 0 0] 42)).drew (by rfl) (((hr.out.alloc _).alloc _).drew) HN.out ?_ (by decide) ?_ ?_; (focus (first | omega | (simp only [World.size_alloc]; done) | (simp only [World.size_alloc]; omega) | (simp; done) | (simp; omega))); (focus (first | omega | (simp only [World.size_alloc]; done) | (simp only [World.size_alloc]; omega) | (simp; done) | (simp; omega))); intro A2 c2 w2 ho2 hg2 hl2; have ho2' : Owned strE 1 9 w2 w0.heap.size A2 (m + 1) c2 l := (by simpa using ho2); have C2 := lit_app_drew2 hg2; have KZ2 := ((Blk.at_ (w0.alloc (.cells #[] 9)) 42 [.string { data := #[] }, .int .i64 0, .slice none 0 0] (b := w0.heap.size + 1) (by simp)).drewN 1).grown hg2 (fun e => by injection e with e; dsimp only at e; omega)) | (refine step_append_recs Try.elStr strE_one rfl (.tmp 10) (.tmp 12) rfl (by rfl) (HOV.out).drew (by rfl) (((hr.out.alloc _).alloc _).drew) HN.out ?_ (by decide) ?_ ?_; (focus (first | omega | (simp only [World.size_alloc]; done) | (simp only [World.size_alloc]; omega) | (simp; done) | (simp; omega))); (focus (first | omega | (simp only [World.size_alloc]; done) | (simp only [World.size_alloc]; omega) | (simp; done) | (simp; omega))); intro A2 c2 w2 ho2 hg2 hl2; have ho2' : Owned strE 1 9 w2 w0.heap.size A2 (m + 1) c2 l := (by simpa using ho2); have C2 := lit_app_drew3 hg2; have KZ2 := (((Blk.at_ w0 42 [.string { data := #[] }, .int .i64 0, .slice none 0 0] (b := w0.heap.size) rfl).alloc (.cells #[] 9)).drewN 1).grown hg2 (fun e => by injection e with e; dsimp only at e; omega)))
    all_goals
      go_wp2_with fail
      go_meet
      refine ⟨_, A2, c2, rfl, ?_⟩
      first
        | with_reducible exact ⟨C2.size, lead_fin KZ ((ho2'.alloc _).up hb3) C3 C2.size⟩
        | with_reducible exact ⟨Nat.le_refl _, lead_fin KZ (ho2'.up hb3) C3 (Nat.le_refl _)⟩
        | with_reducible exact ⟨Nat.le_succ _, lead_fin KZ (ho2'.up hb3) C3 (Nat.le_succ _)⟩
        | with_reducible exact ⟨C3.size, Blk.at_ w3 42 [.string nm, .int .i64 st, .slice A2 (m + 1) c2] rfl, (ho2'.up hb3).alloc _, C3.alloc C3.size _⟩
  case rest =>
    obtain ⟨p, A2, c2, rfl, hp, K4, ho4, B4⟩ := hcut
    rename World => w4
    have L1 := K1.up B4; have L2 := K2.up B4
    have k0 := K4.cell 0; have k1 := K4.cell 1; have k2 := K4.cell 2
    have q0 := L1.cell 0; have q1 := L1.cell 1
    have r0 := L2.cell 0; have r1 := L2.cell 1; have r2 := L2.cell 2
    have t0 := L2.frozen 0; have t1 := L2.frozen 1; have t2 := L2.frozen 2
    simp only [List.getElem?_cons_zero, List.getElem?_cons_succ] at k0 k1 k2 q0 q1 r0 r1 r2
    obtain ⟨g, rfl, g0, g1, gc, gf⟩ := ho4.at_ h0
    obtain ⟨y, hy⟩ := some_of_lt (l := l) (k := m) (by rw [HN.out]; omega)
    have cy := gc m y 0 _ hy rfl
    have fy := gf m
    simp only [Nat.mul_one, Nat.add_zero] at cy
    have HY := Lib.hid hy
    clear gc gf hy
    have FO : Hid (∀ (u : World) (l' : List ByteArray) (a b d : Value), w4.heap.size ≤ u.heap.size → Owned strE 1 9 u w0.heap.size (some ⟨g, 0, none⟩) (m + 1) c2 l' → Below w.heap.size w u → Owned strE 1 9 (((u.setCell ⟨w.heap.size + 1 + 1, 0, none⟩ a).setCell ⟨w.heap.size + 1 + 1, 1, none⟩ b).setCell ⟨w.heap.size + 1 + 1, 2, none⟩ d) w.heap.size (some ⟨g, 0, none⟩) (m + 1) c2 l' ∧ Below w.heap.size w (((u.setCell ⟨w.heap.size + 1 + 1, 0, none⟩ a).setCell ⟨w.heap.size + 1 + 1, 1, none⟩ b).setCell ⟨w.heap.size + 1 + 1, 2, none⟩ d)) := Lib.hid (by
      intro u l' a b d hu ho hb
      have gg : u.grownBy (((u.setCell ⟨w.heap.size + 1 + 1, 0, none⟩ a).setCell ⟨w.heap.size + 1 + 1, 1, none⟩ b).setCell ⟨w.heap.size + 1 + 1, 2, none⟩ d) (some (w.heap.size + 1 + 1)) :=
        grownBy_trans (grownBy_trans (only_set u (p := ⟨w.heap.size + 1 + 1, 0, none⟩) _) (only_set _ (p := ⟨w.heap.size + 1 + 1, 1, none⟩) _)) (only_set _ (p := ⟨w.heap.size + 1 + 1, 2, none⟩) _)
      exact ⟨(ho.past gg (by omega)).base_le (by omega), hb.grown gg hb.size (fun k hk => by injection hk with hk; omega)⟩)
    have hBB := b0.trans (B4.mono b0.size)
    have hpg : ¬ p = g := fun e => ho4.ne_blk K4 (by decide) g rfl e.symm
    have hgp : ¬ g = p := fun e => hpg e.symm
    have PT := Lib.hid (fun (x : ByteArray) => ho4.put (j := 0) (x := x) (u := .string x) HY.out (by decide) rfl)
    rcases hB : isB s
    · rcases hS : isS s
      · have g2 : (s.toList == [98]) = false := hB
        have g3 : (s.toList == [115]) = false := hS
        have e1 := Lib.hid (show l.set m (chOf l kb ks s) = l by
          rw [chOf, hB, hS, if_neg (by simp), if_neg (by simp)]
          have h1 : lastC l = y := by rw [lastC, HN.out, Nat.add_sub_cancel, List.getD, HY.out]; rfl
          apply List.ext_getElem?
          intro q
          by_cases hq : q = m
          · subst hq; rw [List.getElem?_set_self (by rw [HN.out]; omega), h1, HY.out]
          · rw [List.getElem?_set_ne (fun e => hq e.symm)])
        clear hB hS
        go_wp2
        refine bodyPost_ret (v := .agg #[.string nm, .int .i64 st, .slice (some ⟨g, 0, none⟩) (m + 1) c2]) (by simp [results, Try.results174, go_sem, World.cell?_setCell_same, r0, r1, r2]) rfl ?_
        rw [Nat.add_sub_cancel, e1.out]
        exact ⟨_, _, rfl, FO.out _ _ _ _ _ (Nat.le_refl _) ho4 hBB⟩
      · have g2 : (s.toList == [98]) = false := hB
        have g3 : (s.toList == [115]) = true := hS
        have e1 := Lib.hid (show l.set m (chOf l kb ks s) = l.set m ks by rw [chOf, hB, hS, if_neg (by simp), if_pos rfl])
        have pt := PT.out ks
        simp only [Nat.mul_one, Nat.add_zero] at pt
        have PO := Lib.hid pt.1
        have PG := Lib.hid pt.2
        clear hB hS pt
        go_wp2
        refine bodyPost_ret (v := .agg #[.string nm, .int .i64 st, .slice (some ⟨g, 0, none⟩) (m + 1) c2]) (by simp [results, Try.results174, go_sem, World.cell?_setCell_same, r0, r1, r2]) rfl ?_
        rw [Nat.add_sub_cancel, e1.out]
        exact ⟨_, _, rfl, FO.out _ _ _ _ _ PG.out.size PO.out (hBB.grown PG.out hBB.size (fun k hk => by injection hk with hk; omega))⟩
    · have g2 : (s.toList == [98]) = true := hB
      have e1 := Lib.hid (show l.set m (chOf l kb ks s) = l.set m kb by rw [chOf, hB, if_pos rfl])
      have pt := PT.out kb
      simp only [Nat.mul_one, Nat.add_zero] at pt
      have PO := Lib.hid pt.1
      have PG := Lib.hid pt.2
      clear hB pt
      go_wp2
      refine bodyPost_ret (v := .agg #[.string nm, .int .i64 st, .slice (some ⟨g, 0, none⟩) (m + 1) c2]) (by simp [results, Try.results174, go_sem, World.cell?_setCell_same, r0, r1, r2]) rfl ?_
      rw [Nat.add_sub_cancel, e1.out]
      exact ⟨_, _, rfl, FO.out _ _ _ _ _ PG.out.size PO.out (hBB.grown PG.out hBB.size (fun k hk => by injection hk with hk; omega))⟩
end Go.Proofs.Ytmdmnjjlpefigaa
/- The walks through lead heads of calls, both sides. -/
namespace Go.Proofs.Ytmdmnjjlpefigaa
set_option linter.unusedVariables false
set_option linter.unusedSimpArgs false
open Go.ChangeShapes Go.WideShapes Go.ChangeAt Go.RowKit Go.Deep
theorem turnC {P : Program} {f : FuncId} {args : Array Value} {w : World} {v : Value} (h : Calls P f args w fun e w' => e = .returned v ∧ w = w') : Calls P f args w fun e w' => e = .returned v ∧ w' = w :=
  h.mono fun _ _ ⟨he, hw⟩ => ⟨he, hw.symm⟩
set_option maxRecDepth 100000 in
set_option maxHeartbeats 1000000 in
theorem impl_leadHead {A : Option Addr} {n c st : Nat} {nm : ByteArray} {l : List ByteArray} {w : World} (hn : l.length = n) (h : Strs w A l) (hz : n ≤ 1048576) (hs : ∀ s ∈ l, s.size ≤ 16777216) (h8 : st ≤ 8) (hg : ∀ s ∈ l, isDash s = true ∨ validD s = true) :
    Calls Try.prog 173 #[.agg #[.string nm, .int .i64 st, .slice A n c]] w fun e w' => e = .returned (.string (rAt (roundsS st) l n)) ∧ Below w.heap.size w w' := by
  have b0 : Below w.heap.size w (w.alloc (.cells ⟨[.string nm, .int .i64 st, .slice A n c]⟩ 42)) := by (repeat' (first | (with_reducible exact Below.refl _ _) | (with_reducible assumption) | (with_reducible refine below_drewN ?_ _) | (with_reducible refine Below.drew ?_) | (with_reducible refine below_alloc ?_ _) | (with_reducible refine Below.alloc ?_ ?_ _) | (with_reducible refine Below.setCell ?_ ?_ _) | (with_reducible refine below_go ?_ (by with_reducible assumption)) | (with_reducible refine below_then (by with_reducible assumption) ?_ ?_) | go_size))
  have hr8 : (roundsS st).size ≤ 8 := by rw [rounds_size st (by omega)]; exact h8
  have HG := Lib.hid hg
  have HS := Lib.hid hs
  clear hg hs
  have K0 := Blk.at_ w 42 [.string nm, .int .i64 st, .slice A n c] (b := w.heap.size) rfl
  go_in
  go_wp2
  obtain ⟨w0, hw0⟩ : ∃ u, u = (w.alloc (.cells #[.string nm, .int .i64 st, .slice A n c] 42)) := ⟨_, rfl⟩
  rw [← hw0] at b0 K0 ⊢
  clear hw0
  have k1 := K0.cell 1; have k2 := K0.cell 2
  simp only [List.getElem?_cons_zero, List.getElem?_cons_succ] at k1 k2
  refine wp_region_still_tail 5 (by kernel_rfl) (by kernel_rfl) ?_
  simp only [List.take_succ_cons, List.take_zero, List.drop_succ_cons, List.drop_zero]
  repeat still_step
  still_call (turnC (impl_rounds h8))
  repeat still_step
  refine wpStill_nil ?_
  change wpList _ _ _ _ _ w0.drew
  go_wp2_with fail
  refine (impl_rowsUnder hr8 hn (h.up b0).drew (by omega) HS.out HG.out).mono ?_; rintro e w1 ⟨A1, c1, rfl, ho, hbd⟩
  have hb1 := below_of_drew hbd
  obtain ⟨g, rfl, _, _, gc, _⟩ := ho.at_ (by omega)
  have hrow : (rowsL (roundsS st) l (n + 1))[n]? = some (rAt (roundsS st) l n) := by rw [rowsL, List.getElem?_map, List.getElem?_range (by omega)]; rfl
  have cg := gc n _ 0 _ hrow rfl
  simp only [Nat.mul_one, Nat.add_zero] at cg
  clear gc hrow
  go_wp2
  go_ret
  exact ⟨rfl, below_go b0 hb1⟩
theorem goodK_all {nm : ByteArray} {st : Nat} {l : List ByteArray} {kb ks : ByteArray} (h : goodK nm (st : Int) l kb ks = true) :
    (3 ≤ st ∧ st ≤ 8) ∧ (1 ≤ l.length ∧ l.length ≤ 40) ∧ (∀ c ∈ l, goodChange st c = true) ∧ goodChange st kb = true ∧ goodChange st ks = true := by
  obtain ⟨h1, h2, h3⟩ := goodK_t h
  obtain ⟨_, h5, h6, h7⟩ := goodM_t h1
  exact ⟨by omega, h6, allCh_mem h7, h2, h3⟩
theorem chOf_good {nm : ByteArray} {st : Nat} {l : List ByteArray} {kb ks : ByteArray} (h : goodK nm (st : Int) l kb ks = true) (s : ByteArray) : goodChange st (chOf l kb ks s) = true := by
  obtain ⟨_, h2, h3, h4, h5⟩ := goodK_all h
  rw [chOf]
  split
  · exact h4
  · split
    · exact h5
    · exact h3 _ (List.mem_of_getElem? (lastC_at (by omega)))
theorem set_good {nm : ByteArray} {st : Nat} {l : List ByteArray} {kb ks : ByteArray} (h : goodK nm (st : Int) l kb ks = true) (s : ByteArray) (k : Nat) : ∀ c ∈ l.set k (chOf l kb ks s), goodChange st c = true := by
  intro c hc
  rcases List.mem_or_eq_of_mem_set hc with hc | rfl
  · exact (goodK_all h).2.2.1 c hc
  · exact chOf_good h s
set_option maxHeartbeats 1000000 in
theorem impl_callHead {A : Option Addr} {n c st : Nat} {nm : ByteArray} {l : List ByteArray} {kb ks : ByteArray} {s : ByteArray} {w : World} (hn : l.length = n) (h : Strs w A l) (hk : goodK nm (st : Int) l kb ks = true) :
    Calls Try.prog 131 #[.agg #[.string nm, .int .i64 st, .slice A n c], .agg #[.string kb, .string ks], .string s] w fun e w' => e = .returned (.string (callHd st l kb ks s)) ∧ Below w.heap.size w w' := by
  obtain ⟨h8, h40, hgl, hgb, hgs⟩ := goodK_all hk
  have b0 : Below w.heap.size w ((w.alloc (.cells ⟨[.string nm, .int .i64 st, .slice A n c]⟩ 42)).alloc (.cells ⟨[.string kb, .string ks]⟩ 44)) := by (repeat' (first | (with_reducible exact Below.refl _ _) | (with_reducible assumption) | (with_reducible refine below_drewN ?_ _) | (with_reducible refine Below.drew ?_) | (with_reducible refine below_alloc ?_ _) | (with_reducible refine Below.alloc ?_ ?_ _) | (with_reducible refine Below.setCell ?_ ?_ _) | (with_reducible refine below_go ?_ (by with_reducible assumption)) | (with_reducible refine below_then (by with_reducible assumption) ?_ ?_) | go_size))
  have e1 := Lib.hid (show rAt (roundsS st) (l.set (n - 1) (chOf l kb ks s)) n = callHd st l kb ks s by
    subst hn
    exact headX_set (by omega))
  have SG := Lib.hid (set_good hk s (n - 1))
  have HS := Lib.hid (fun (s' : ByteArray) (hs' : s' ∈ l) => show s'.size ≤ 16777216 from by have := goodChange_small (hgl s' hs'); omega)
  have sk1 := goodChange_small hgb
  have sk2 := goodChange_small hgs
  have hn40 : n ≤ 40 := by omega
  have hn1 : 0 < n := by omega
  have hI : I64 (st : Int) := by unfold I64; omega
  have hnm : nm.size ≤ 16777216 := by
    have h1 := (goodM_t (goodK_t hk).1).1
    rw [nameOk, Bool.and_eq_true] at h1
    have := inB_t h1.2
    omega
  clear hgl hgb hgs h40
  go_in
  go_wp2_with fail
  refine (impl_calledLead hn (h.up b0) (by omega) HS.out hnm hI hn1).mono ?_; rintro e w1 ⟨A1, c1, rfl, ho, hb1⟩
  go_wp2_with fail
  refine (impl_leadHead ho.len ho.recs (by omega) (fun x hx => by have := goodChange_small (SG.out x hx); omega) h8.2 (fun x hx => good_valid (SG.out x hx))).mono ?_; rw [e1.out]; rintro e w2 ⟨rfl, hb2⟩
  go_wp2
  go_ret
  exact ⟨rfl, below_go (below_go b0 hb1) hb2⟩
theorem own_lit3 (w : World) (E : TypeId) (x y z : ByteArray) {base : Nat} (hb : base ≤ w.heap.size) : Owned strE 1 E (w.alloc (.cells #[.string x, .string y, .string z] E)) base (some ⟨w.heap.size, 0, none⟩) 3 3 [x, y, z] :=
  ⟨strE_len, rfl, by simpa [strE] using World.ownsRow_lit (e := E) (base := base) (size := 1) w #[.string x, .string y, .string z] 3 hb (by unfold maxLen; omega) (by simp)⟩
/-- The three heads. -/
def hds3 (st : Nat) (l : List ByteArray) (kb ks : ByteArray) : List ByteArray := [callHd st l kb ks ⟨#[112]⟩, callHd st l kb ks ⟨#[98]⟩, callHd st l kb ks ⟨#[115]⟩]
theorem callHd_good {nm : ByteArray} {st : Nat} {l : List ByteArray} {kb ks : ByteArray} (h : goodK nm (st : Int) l kb ks = true) (s : ByteArray) : goodRow (callHd st l kb ks s) = true ∧ (callHd st l kb ks s).size = st := by
  obtain ⟨h8, _⟩ := goodK_all h
  exact ⟨headX_good h8.1 h8.2 _ _, headX_size (by omega) _ _⟩
theorem hds3_good {nm : ByteArray} {st : Nat} {l : List ByteArray} {kb ks : ByteArray} (h : goodK nm (st : Int) l kb ks = true) : goodRows (hds3 st l kb ks) = true := by
  have a := callHd_good h ⟨#[112]⟩; have b := callHd_good h ⟨#[98]⟩; have c := callHd_good h ⟨#[115]⟩
  rw [goodRows, Bool.and_eq_true, List.all_eq_true]
  refine ⟨fun k hk => ?_, by simp [hds3]⟩
  have hk := List.mem_range.1 hk
  have h0 : (hds3 st l kb ks)[0]? = some (callHd st l kb ks ⟨#[112]⟩) := rfl
  match k, hk with
  | 0, _ => rw [okRow_at h0 h0, a.1]; simp
  | 1, _ => rw [okRow_at h0 (show (hds3 st l kb ks)[1]? = some (callHd st l kb ks ⟨#[98]⟩) from rfl), b.1, a.2, b.2]; simp
  | 2, _ => rw [okRow_at h0 (show (hds3 st l kb ks)[2]? = some (callHd st l kb ks ⟨#[115]⟩) from rfl), c.1, a.2, c.2]; simp
  | k + 3, hk => simp [hds3] at hk; omega
/-- The signs of the lead heads. -/
def lsOk (nm : ByteArray) (st : Int) (l : List ByteArray) (kb ks : ByteArray) : Bool := goodK nm st l kb ks
def lsR (nm : ByteArray) (st : Int) (l : List ByteArray) (kb ks : ByteArray) : List Bool := if goodK nm st l kb ks = true then (hds3 st.toNat l kb ks).map evenRow else []
theorem lsR_f {nm : ByteArray} {st : Int} {l : List ByteArray} {kb ks : ByteArray} (h : goodK nm st l kb ks = false) : lsR nm st l kb ks = [] := by rw [lsR, if_neg (by rw [h]; simp)]
theorem lsR_t {nm : ByteArray} {st : Nat} {l : List ByteArray} {kb ks : ByteArray} (h : goodK nm (st : Int) l kb ks = true) : lsR nm st l kb ks = (hds3 st l kb ks).map evenRow := by rw [lsR, if_pos h]; rfl
theorem lsR_len (nm : ByteArray) (st : Int) (l : List ByteArray) (kb ks : ByteArray) : (lsR nm st l kb ks).length ≤ 3 := by
  rw [lsR]; split <;> simp [hds3]
set_option maxHeartbeats 2000000 in
set_option maxRecDepth 100000 in
theorem impl_callHeads {A : Option Addr} {n c st : Nat} {nm : ByteArray} {l : List ByteArray} {kb ks : ByteArray} {w : World} (hn : l.length = n) (h : Strs w A l) (hk : goodK nm (st : Int) l kb ks = true) :
    Calls Try.prog 85 #[.agg #[.string nm, .int .i64 st, .slice A n c], .agg #[.string kb, .string ks]] w fun e w' => ∃ A' c', e = .returned (.slice A' 3 c') ∧ Owned strE 1 9 w' w.heap.size A' 3 c' (hds3 st l kb ks) ∧ Below w.heap.size w w' := by
  have b0 : Below w.heap.size w ((w.alloc (.cells ⟨[.string nm, .int .i64 st, .slice A n c]⟩ 42)).alloc (.cells ⟨[.string kb, .string ks]⟩ 44)) := by (repeat' (first | (with_reducible exact Below.refl _ _) | (with_reducible assumption) | (with_reducible refine below_drewN ?_ _) | (with_reducible refine Below.drew ?_) | (with_reducible refine below_alloc ?_ _) | (with_reducible refine Below.alloc ?_ ?_ _) | (with_reducible refine Below.setCell ?_ ?_ _) | (with_reducible refine below_go ?_ (by with_reducible assumption)) | (with_reducible refine below_then (by with_reducible assumption) ?_ ?_) | go_size))
  have K0 := (Blk.at_ w 42 [.string nm, .int .i64 st, .slice A n c] (b := w.heap.size) rfl).alloc (.cells ⟨[.string kb, .string ks]⟩ 44)
  have K1 := Blk.at_ (w.alloc (.cells ⟨[.string nm, .int .i64 st, .slice A n c]⟩ 42)) 44 [.string kb, .string ks] (b := w.heap.size + 1) (by simp)
  go_in
  go_wp2
  obtain ⟨w0, hw0⟩ : ∃ u, u = ((w.alloc (.cells #[.string nm, .int .i64 st, .slice A n c] 42)).alloc (.cells #[.string kb, .string ks] 44)) := ⟨_, rfl⟩
  rw [← hw0] at b0 K0 K1 ⊢
  clear hw0
  have H0 := Lib.hid (h.up b0)
  have carry : Hid (∀ u : World, Below w0.heap.size w0 u → (u.cell? ⟨w.heap.size, 0, none⟩ = some (.string nm) ∧ u.cell? ⟨w.heap.size, 1, none⟩ = some (.int .i64 st) ∧ u.cell? ⟨w.heap.size, 2, none⟩ = some (.slice A n c)) ∧ u.cell? ⟨w.heap.size + 1, 0, none⟩ = some (.string kb) ∧ u.cell? ⟨w.heap.size + 1, 1, none⟩ = some (.string ks)) := Lib.hid (fun u hu => by
    have L0 := K0.up hu; have L1 := K1.up hu
    exact ⟨⟨by simpa using L0.cell 0, by simpa using L0.cell 1, by simpa using L0.cell 2⟩, by simpa using L1.cell 0, by simpa using L1.cell 1⟩)
  clear h K0 K1
  have cf := Lib.hid (fun (u : World) (s : ByteArray) (hb : Below w0.heap.size w0 u) => impl_callHead (c := c) (s := s) hn (H0.out.up hb) hk)
  go_region_held3 (fun u => (u.cell? ⟨w.heap.size, 0, none⟩ = some (.string nm) ∧ u.cell? ⟨w.heap.size, 1, none⟩ = some (.int .i64 st) ∧ u.cell? ⟨w.heap.size, 2, none⟩ = some (.slice A n c)) ∧ u.cell? ⟨w.heap.size + 1, 0, none⟩ = some (.string kb) ∧ u.cell? ⟨w.heap.size + 1, 1, none⟩ = some (.string ks)) (first | exact carry.out _ C3 | exact carry.out _ (C3.alloc C3.size _) | exact carry.out _ C2 | exact carry.out _ C1 | exact carry.out _ (Below.refl _ _).drew) (first | (go_at_call 131; ((with_reducible refine (cf.out _ ⟨#[115]⟩ C2).mono ?_); rintro e w3 ⟨rfl, hb3⟩; have C3 := C2.trans (hb3.mono C2.size))) | (go_at_call 131; ((with_reducible refine (cf.out _ ⟨#[98]⟩ C1).mono ?_); rintro e w2 ⟨rfl, hb2⟩; have C2 := C1.trans (hb2.mono C1.size))) | (go_at_call 131; ((with_reducible refine (cf.out _ ⟨#[112]⟩ (Below.refl _ _).drew).mono ?_); rintro e w1 ⟨rfl, hbd1⟩; have hb1 := below_of_drew hbd1; have C1 := hb1)))
  go_wp2
  go_ret
  have C4 := C3.alloc C3.size (.cells #[.string (callHd st l kb ks ⟨#[112]⟩), .string (callHd st l kb ks ⟨#[98]⟩), .string (callHd st l kb ks ⟨#[115]⟩)] 9)
  have hB := b0.trans (C4.mono b0.size)
  exact ⟨_, _, rfl, own_lit3 w3 9 _ _ _ (by have := b0.size; have := C3.size; omega), hB⟩
set_option maxHeartbeats 1000000 in
theorem impl_LeadSigns {A : Option Addr} {n c : Nat} {nm : ByteArray} {st : Int} {l : List ByteArray} {kb ks : ByteArray} {w : World} (hn : l.length = n) (h : Strs w A l) (hz : n ≤ 1048576) (hs : ∀ s ∈ l, s.size ≤ 16777216) (hnm : nm.size ≤ 16777216) (hst : I64 st) (hkb : kb.size ≤ 16777216) (hks : ks.size ≤ 16777216) :
    Calls Try.prog 35 #[.agg #[.string nm, .int .i64 st, .slice A n c], .agg #[.string kb, .string ks]] w fun e w' => ∃ A' c', e = .returned (.tuple #[.slice A' (lsR nm st l kb ks).length c', .bool (goodK nm st l kb ks)]) ∧
      Owned boolE 1 4 w' w.heap.size A' (lsR nm st l kb ks).length c' (lsR nm st l kb ks) ∧ (lsR nm st l kb ks).length ≤ 16777216 ∧ Below w.heap.size w w' := by
  have b0 : Below w.heap.size w ((w.alloc (.cells ⟨[.string nm, .int .i64 st, .slice A n c]⟩ 42)).alloc (.cells ⟨[.string kb, .string ks]⟩ 44)) := by (repeat' (first | (with_reducible exact Below.refl _ _) | (with_reducible assumption) | (with_reducible refine below_drewN ?_ _) | (with_reducible refine Below.drew ?_) | (with_reducible refine below_alloc ?_ _) | (with_reducible refine Below.alloc ?_ ?_ _) | (with_reducible refine Below.setCell ?_ ?_ _) | (with_reducible refine below_go ?_ (by with_reducible assumption)) | (with_reducible refine below_then (by with_reducible assumption) ?_ ?_) | go_size))
  have K0 := (Blk.at_ w 42 [.string nm, .int .i64 st, .slice A n c] (b := w.heap.size) rfl).alloc (.cells ⟨[.string kb, .string ks]⟩ 44)
  have K1 := Blk.at_ (w.alloc (.cells ⟨[.string nm, .int .i64 st, .slice A n c]⟩ 42)) 44 [.string kb, .string ks] (b := w.heap.size + 1) (by simp)
  go_in
  go_wp2_with fail
  obtain ⟨w0, hw0⟩ : ∃ u, u = ((w.alloc (.cells #[.string nm, .int .i64 st, .slice A n c] 42)).alloc (.cells #[.string kb, .string ks] 44)) := ⟨_, rfl⟩
  rw [← hw0] at b0 K0 K1 ⊢
  clear hw0
  refine (impl_GoodCalls hn (h.up b0) hz hs hnm hst hkb hks).mono ?_; rintro e w1 ⟨rfl, hb1⟩
  have hB1 := below_go b0 hb1
  rcases hk : goodK nm st l kb ks
  · have e1 := Lib.hid (lsR_f hk)
    have e2 := Lib.hid hk
    go_wp2
    go_ret2
    rw [e1.out, e2.out]
    exact ⟨none, 0, rfl, Owned.nil boolE_len _ _ _, by decide, hB1⟩
  · obtain ⟨m, rfl⟩ : ∃ m : Nat, st = (m : Int) := ⟨st.toNat, by
      have := (goodM_t (goodK_t hk).1).2.1
      omega⟩
    have L0 := K0.up hb1; have L1 := K1.up hb1
    have k0 := L0.cell 0; have k1 := L0.cell 1; have k2 := L0.cell 2; have q0 := L1.cell 0; have q1 := L1.cell 1
    simp only [List.getElem?_cons_zero, List.getElem?_cons_succ] at k0 k1 k2 q0 q1
    have hgr := hds3_good hk
    have e1 := Lib.hid (lsR_t hk)
    have hlen : (hds3 m l kb ks).length = 3 := rfl
    have HK := Lib.hid hk
    have hsz : ∀ s ∈ hds3 m l kb ks, s.size ≤ 16777216 := fun s hs' => by
      have := goodRow_n (goodRows_mem hgr s hs'); omega
    have hsz2 := Lib.hid hsz
    clear hsz hgr
    go_wp2_with fail
    refine (impl_callHeads hn (h.up hB1) hk).mono ?_; rintro e w2 ⟨A2, c2, rfl, ho2, hb2⟩
    have hB2 := below_go hB1 hb2
    go_wp2_with fail
    refine (impl_signs hlen ho2.recs (by omega) hsz2.out).mono ?_; rintro e w3 ⟨A3, c3, rfl, ho3, hb3⟩
    go_wp2
    go_ret2
    rw [e1.out, HK.out]
    have e2 : ((hds3 m l kb ks).map evenRow).length = 3 := rfl
    exact ⟨_, _, rfl, ho3.base_le hB2.size, by rw [e2]; decide, below_go hB2 hb3⟩
end Go.Proofs.Ytmdmnjjlpefigaa
/- The walks of chapter 17: what a method and its calls give (the program). -/
namespace Go.Proofs.Ytmdmnjjlpefigaa
set_option linter.unusedVariables false
set_option linter.unusedSimpArgs false
open Go.ChangeShapes Go.WideShapes Go.ChangeAt Go.RowKit Go.Deep
def cP (st : Nat) (l : List ByteArray) (kb ks : ByteArray) : ByteArray := callHd st l kb ks ⟨#[112]⟩
def cB (st : Nat) (l : List ByteArray) (kb ks : ByteArray) : ByteArray := callHd st l kb ks ⟨#[98]⟩
noncomputable def cQ (st : Nat) (l : List ByteArray) (kb ks : ByteArray) : ByteArray := timesS (cP st l kb ks) (turnS (cB st l kb ks))
def gF (st : Nat) (l : List ByteArray) (kb ks : ByteArray) : List ByteArray := clF st [cP st l kb ks, cB st l kb ks]
theorem own_lit2_at {w : World} {E : TypeId} {base b : Nat} {x y : ByteArray} (h : b = w.heap.size) (hb : base ≤ w.heap.size) : Owned strE 1 E (w.alloc (.cells #[.string x, .string y] E)) base (some ⟨b, 0, none⟩) 2 2 [x, y] := by
  subst h
  exact ⟨strE_len, rfl, by simpa [strE] using World.ownsRow_lit (e := E) (base := base) (size := 1) w #[.string x, .string y] 2 hb (by unfold maxLen; omega) (by simp)⟩
theorem cP_row {nm : ByteArray} {st : Nat} {l : List ByteArray} {kb ks : ByteArray} (h : goodK nm (st : Int) l kb ks = true) : RowN st (cP st l kb ks) := callHd_good h _
theorem cB_row {nm : ByteArray} {st : Nat} {l : List ByteArray} {kb ks : ByteArray} (h : goodK nm (st : Int) l kb ks = true) : RowN st (cB st l kb ks) := callHd_good h _
theorem gF_rows {nm : ByteArray} {st : Nat} {l : List ByteArray} {kb ks : ByteArray} (h : goodK nm (st : Int) l kb ks = true) : ∀ g ∈ [cP st l kb ks, cB st l kb ks], RowN st g := fun g hg => by
  simp only [List.mem_cons, List.not_mem_nil, or_false] at hg
  rcases hg with rfl | rfl
  · exact cP_row h
  · exact cB_row h
theorem gF_row {nm : ByteArray} {st : Nat} {l : List ByteArray} {kb ks : ByteArray} (h : goodK nm (st : Int) l kb ks = true) : ∀ g ∈ gF st l kb ks, RowN st g :=
  (clF_ok (goodK_all h).1.1 (goodK_all h).1.2 (gF_rows h)).2
abbrev noB : List Value := [.string { data := #[] }, .string { data := #[] }, .slice none 0 0, .string { data := #[] }]
theorem set4_fin {w3 : World} {p base : Nat} {E T : TypeId} {z0 z1 z2 z3 : Value} {A2 : Option Addr} {n c2 : Nat} {l : List ByteArray} (KZ : Blk w3 p T [z0, z1, z2, z3]) (ho : Owned strE 1 E w3 base A2 n c2 l) (hE : E ≠ T) (x0 x1 x2 x3 : Value) :
    Owned strE 1 E ((((w3.setCell ⟨p, 0, none⟩ x0).setCell ⟨p, 1, none⟩ x1).setCell ⟨p, 2, none⟩ x2).setCell ⟨p, 3, none⟩ x3) base A2 n c2 l := by
  have hne := ho.ne_blk KZ hE
  have g : w3.grownBy ((((w3.setCell ⟨p, 0, none⟩ x0).setCell ⟨p, 1, none⟩ x1).setCell ⟨p, 2, none⟩ x2).setCell ⟨p, 3, none⟩ x3) (some p) :=
    grownBy_trans (grownBy_trans (grownBy_trans (only_set w3 (p := ⟨p, 0, none⟩) _) (only_set _ (p := ⟨p, 1, none⟩) _)) (only_set _ (p := ⟨p, 2, none⟩) _)) (only_set _ (p := ⟨p, 3, none⟩) _)
  exact ho.kept g (fun k hk e => hne k hk (by injection e with e; exact e.symm))
set_option maxHeartbeats 2000000 in
set_option maxRecDepth 100000 in
theorem impl_newBlocks_no {A : Option Addr} {n c : Nat} {nm : ByteArray} {st : Int} {l : List ByteArray} {kb ks : ByteArray} {w : World} (hn : l.length = n) (h : Strs w A l) (hz : n ≤ 1048576) (hs : ∀ s ∈ l, s.size ≤ 16777216) (hnm : nm.size ≤ 16777216) (hst : I64 st) (hkb : kb.size ≤ 16777216) (hks : ks.size ≤ 16777216) (hk : goodK nm st l kb ks = false) :
    Calls Try.prog 151 #[.agg #[.string nm, .int .i64 st, .slice A n c], .agg #[.string kb, .string ks]] w fun e w' => e = .returned (.tuple #[.agg #[.string { data := #[] }, .string { data := #[] }, .slice none 0 0, .string { data := #[] }], .bool false]) ∧ Below w.heap.size w w' := by
  have b0 : Below w.heap.size w (((w.alloc (.cells ⟨[.string nm, .int .i64 st, .slice A n c]⟩ 42)).alloc (.cells ⟨[.string kb, .string ks]⟩ 44)).alloc (.cells ⟨noB⟩ 119)) := by (repeat' (first | (with_reducible exact Below.refl _ _) | (with_reducible assumption) | (with_reducible refine below_drewN ?_ _) | (with_reducible refine Below.drew ?_) | (with_reducible refine below_alloc ?_ _) | (with_reducible refine Below.alloc ?_ ?_ _) | (with_reducible refine Below.setCell ?_ ?_ _) | (with_reducible refine below_go ?_ (by with_reducible assumption)) | (with_reducible refine below_then (by with_reducible assumption) ?_ ?_) | go_size))
  have K2 := Blk.at_ ((w.alloc (.cells ⟨[.string nm, .int .i64 st, .slice A n c]⟩ 42)).alloc (.cells ⟨[.string kb, .string ks]⟩ 44)) 119 noB (b := w.heap.size + 1 + 1) (by simp)
  go_in
  go_wp2_with fail
  obtain ⟨w0, hw0⟩ : ∃ u, u = (((w.alloc (.cells #[.string nm, .int .i64 st, .slice A n c] 42)).alloc (.cells #[.string kb, .string ks] 44)).alloc (.cells #[.string { data := #[] }, .string { data := #[] }, .slice none 0 0, .string { data := #[] }] 119)) := ⟨_, rfl⟩
  rw [← hw0] at b0 K2 ⊢
  clear hw0
  refine (impl_GoodCalls hn (h.up b0) hz hs hnm hst hkb hks).mono ?_; rw [hk]; rintro e w1 ⟨rfl, hb1⟩
  have hB1 := below_go b0 hb1
  have L2 := K2.up hb1
  have f0 := L2.frozen 0; have f1 := L2.frozen 1; have f2 := L2.frozen 2; have f3 := L2.frozen 3
  have d0 := L2.cell 0; have d1 := L2.cell 1; have d2 := L2.cell 2; have d3 := L2.cell 3
  simp only [List.getElem?_cons_zero, List.getElem?_cons_succ] at d0 d1 d2 d3
  go_wp2
  have Z := (((L2.set_ 0 (.string { data := #[] })).set_ 1 (.string { data := #[] })).set_ 2 (.slice none 0 0)).set_ 3 (.string { data := #[] })
  have z0 := Z.cell 0; have z1 := Z.cell 1; have z2 := Z.cell 2; have z3 := Z.cell 3
  simp only [List.set_cons_zero, List.set_cons_succ, List.getElem?_cons_zero, List.getElem?_cons_succ] at z0 z1 z2 z3
  refine bodyPost_ret (v := .tuple #[.agg #[.string { data := #[] }, .string { data := #[] }, .slice none 0 0, .string { data := #[] }], .bool false]) (by simp [results, Try.results151, go_sem, z0, z1, z2, z3]) rfl ?_
  exact ⟨rfl, by (repeat' (first | (with_reducible exact Below.refl _ _) | (with_reducible assumption) | (with_reducible refine below_drewN ?_ _) | (with_reducible refine Below.drew ?_) | (with_reducible refine below_alloc ?_ _) | (with_reducible refine Below.alloc ?_ ?_ _) | (with_reducible refine Below.setCell ?_ ?_ _) | (with_reducible refine below_go ?_ (by with_reducible assumption)) | (with_reducible refine below_then (by with_reducible assumption) ?_ ?_) | go_size))⟩
set_option maxHeartbeats 2000000 in
set_option maxRecDepth 100000 in
theorem impl_newBlocks {A : Option Addr} {n c st : Nat} {nm : ByteArray} {l : List ByteArray} {kb ks : ByteArray} {w : World} (hn : l.length = n) (h : Strs w A l) (hk : goodK nm (st : Int) l kb ks = true) :
    Calls Try.prog 151 #[.agg #[.string nm, .int .i64 st, .slice A n c], .agg #[.string kb, .string ks]] w fun e w' => ∃ G gn gc, e = .returned (.tuple #[.agg #[.string (cP st l kb ks), .string (cB st l kb ks), .slice G gn gc, .string (cQ st l kb ks)], .bool (decide ((gF st l kb ks).length ≤ 130))]) ∧ ((gF st l kb ks).length ≤ 130 → gn = (gF st l kb ks).length ∧ ∃ L, Owned strE 1 9 w' w.heap.size G gn gc L ∧ L.Perm (gF st l kb ks) ∧ Srt L) ∧ Below w.heap.size w w' ∧ RowN st (cQ st l kb ks) := by
  obtain ⟨h8, h40, hgl, hgb, hgs⟩ := goodK_all hk
  have HS := Lib.hid (fun (s' : ByteArray) (hs' : s' ∈ l) => show s'.size ≤ 16777216 from by have := goodChange_small (hgl s' hs'); omega)
  have sk1 := goodChange_small hgb
  have sk2 := goodChange_small hgs
  have hI : I64 (st : Int) := by unfold I64; omega
  have hnm : nm.size ≤ 16777216 := by
    have h1 := (goodM_t (goodK_t hk).1).1
    rw [nameOk, Bool.and_eq_true] at h1
    have := inB_t h1.2
    omega
  clear hgl hgb hgs
  have hP := cP_row hk
  have hB := cB_row hk
  have HGR := Lib.hid (gF_rows hk)
  have HGF := Lib.hid (show gF st l kb ks = clF st [cP st l kb ks, cB st l kb ks] from rfl)
  have HQD := Lib.hid (show cQ st l kb ks = timesS (cP st l kb ks) (turnS (cB st l kb ks)) from rfl)
  have HPE := Lib.hid (show callHd st l kb ks ⟨#[112]⟩ = cP st l kb ks from rfl)
  have HBE := Lib.hid (show callHd st l kb ks ⟨#[98]⟩ = cB st l kb ks from rfl)
  have b0 : Below w.heap.size w (((w.alloc (.cells ⟨[.string nm, .int .i64 st, .slice A n c]⟩ 42)).alloc (.cells ⟨[.string kb, .string ks]⟩ 44)).alloc (.cells ⟨noB⟩ 119)) := by (repeat' (first | (with_reducible exact Below.refl _ _) | (with_reducible assumption) | (with_reducible refine below_drewN ?_ _) | (with_reducible refine Below.drew ?_) | (with_reducible refine below_alloc ?_ _) | (with_reducible refine Below.alloc ?_ ?_ _) | (with_reducible refine Below.setCell ?_ ?_ _) | (with_reducible refine below_go ?_ (by with_reducible assumption)) | (with_reducible refine below_then (by with_reducible assumption) ?_ ?_) | go_size))
  have K0 := ((Blk.at_ w 42 [.string nm, .int .i64 st, .slice A n c] (b := w.heap.size) rfl).alloc (.cells ⟨[.string kb, .string ks]⟩ 44)).alloc (.cells ⟨noB⟩ 119)
  have K1 := (Blk.at_ (w.alloc (.cells ⟨[.string nm, .int .i64 st, .slice A n c]⟩ 42)) 44 [.string kb, .string ks] (b := w.heap.size + 1) (by simp)).alloc (.cells ⟨noB⟩ 119)
  have K2 := Blk.at_ ((w.alloc (.cells ⟨[.string nm, .int .i64 st, .slice A n c]⟩ 42)).alloc (.cells ⟨[.string kb, .string ks]⟩ 44)) 119 noB (b := w.heap.size + 1 + 1) (by simp)
  go_in
  go_wp2_with fail
  obtain ⟨w0, hw0⟩ : ∃ u, u = (((w.alloc (.cells #[.string nm, .int .i64 st, .slice A n c] 42)).alloc (.cells #[.string kb, .string ks] 44)).alloc (.cells #[.string { data := #[] }, .string { data := #[] }, .slice none 0 0, .string { data := #[] }] 119)) := ⟨_, rfl⟩
  rw [← hw0] at b0 K0 K1 K2 ⊢
  clear hw0
  refine (impl_GoodCalls hn (h.up b0) (by omega) HS.out hnm hI (by omega) (by omega)).mono ?_; rw [hk]; rintro e w1 ⟨rfl, hb1⟩
  have hB1 := below_go b0 hb1
  have H1 := Lib.hid (h.up hB1)
  have M0 := K0.up hb1; have M1 := K1.up hb1; have M2 := K2.up hb1
  clear K0 K1 K2 h
  have carry : Hid (∀ u : World, Below w1.heap.size w1 u → (u.cell? ⟨w.heap.size, 0, none⟩ = some (.string nm) ∧ u.cell? ⟨w.heap.size, 1, none⟩ = some (.int .i64 st) ∧ u.cell? ⟨w.heap.size, 2, none⟩ = some (.slice A n c)) ∧ u.cell? ⟨w.heap.size + 1, 0, none⟩ = some (.string kb) ∧ u.cell? ⟨w.heap.size + 1, 1, none⟩ = some (.string ks)) := Lib.hid (fun u hu => by
    have L0 := M0.up hu; have L1 := M1.up hu
    exact ⟨⟨by simpa using L0.cell 0, by simpa using L0.cell 1, by simpa using L0.cell 2⟩, by simpa using L1.cell 0, by simpa using L1.cell 1⟩)
  clear M0 M1
  have HM2 := Lib.hid M2
  clear M2
  have cf := Lib.hid (fun (u : World) (s : ByteArray) (hb : Below w1.heap.size w1 u) => impl_callHead (c := c) (s := s) hn (H1.out.up hb) hk)
  go_wp2
  go_region_held3 (fun u => (u.cell? ⟨w.heap.size, 0, none⟩ = some (.string nm) ∧ u.cell? ⟨w.heap.size, 1, none⟩ = some (.int .i64 st) ∧ u.cell? ⟨w.heap.size, 2, none⟩ = some (.slice A n c)) ∧ u.cell? ⟨w.heap.size + 1, 0, none⟩ = some (.string kb) ∧ u.cell? ⟨w.heap.size + 1, 1, none⟩ = some (.string ks)) (first | exact carry.out _ C2 | exact carry.out _ C1 | exact carry.out _ (Below.refl _ _).drew) (first | (go_at_call 131; ((with_reducible refine (cf.out _ ⟨#[98]⟩ C1).mono ?_); rw [HBE.out]; rintro e w3 ⟨rfl, hb3⟩; have C2 := C1.trans (hb3.mono C1.size))) | (go_at_call 131; ((with_reducible refine (cf.out _ ⟨#[112]⟩ (Below.refl _ _).drew).mono ?_); rw [HPE.out]; rintro e w2 ⟨rfl, hbd2⟩; have hb2 := below_of_drew hbd2; have C1 := hb2)))
  obtain ⟨⟨k0, k1, k2⟩, q0, q1⟩ := carry.out _ C2
  have hps : (cP st l kb ks).size ≤ 16777216 := by rw [hP.2]; omega
  have hbg := hB.1
  go_wp2_with fail
  refine (impl_generated (n := st) (most := 130) (gs := [cP st l kb ks, cB st l kb ks]) rfl (own_lit2_at (E := 9) (base := 0) rfl (Nat.zero_le _)).recs (by simp) h8.1 h8.2 HGR.out (by decide) (by decide)).mono ?_
  rw [← HGF.out]
  rintro e w4 ⟨G, gn, gc, rfl, hyes, _, hb4⟩
  have HY := Lib.hid hyes
  clear hyes k0 k1 k2 q0 q1
  have C4 : Below w1.heap.size w1 w4 := (C2.alloc C2.size _).trans (hb4.mono (by have := C2.size; simp; omega))
  go_wp2_with fail
  refine (impl_turned hbg).mono ?_; rintro e w5 ⟨rfl, hb5, ht⟩
  rw [hB.2] at ht
  have hft := rowN_fits hP ht
  have hts : (turnS (cB st l kb ks)).size ≤ 16777216 := by rw [ht.2]; omega
  have HQR := Lib.hid (show RowN st (cQ st l kb ks) by rw [HQD.out]; exact hP.times ht)
  go_wp2_with fail
  refine (impl_times hps hts hft).mono ?_; rw [← HQD.out]; rintro e w6 ⟨rfl, hb6⟩
  have C5 := C4.trans (hb5.mono C4.size)
  have C6 := C5.trans (hb6.mono C5.size)
  have hB6 : Below w.heap.size w w6 := hB1.trans (C6.mono hB1.size)
  have L2 := HM2.out.up C6
  have f0 := L2.frozen 0; have f1 := L2.frozen 1; have f2 := L2.frozen 2; have f3 := L2.frozen 3
  have d0 := L2.cell 0; have d1 := L2.cell 1; have d2 := L2.cell 2; have d3 := L2.cell 3
  simp only [List.getElem?_cons_zero, List.getElem?_cons_succ] at d0 d1 d2 d3
  clear ht hft
  go_wp2
  have Z := (((L2.set_ 0 (.string (cP st l kb ks))).set_ 1 (.string (cB st l kb ks))).set_ 2 (.slice G gn gc)).set_ 3 (.string (cQ st l kb ks))
  have z0 := Z.cell 0; have z1 := Z.cell 1; have z2 := Z.cell 2; have z3 := Z.cell 3
  simp only [List.set_cons_zero, List.set_cons_succ, List.getElem?_cons_zero, List.getElem?_cons_succ] at z0 z1 z2 z3
  refine bodyPost_ret (v := .tuple #[.agg #[.string (cP st l kb ks), .string (cB st l kb ks), .slice G gn gc, .string (cQ st l kb ks)], .bool (decide ((gF st l kb ks).length ≤ 130))]) (by simp [results, Try.results151, go_sem, z0, z1, z2, z3]) rfl ?_
  refine ⟨G, gn, gc, rfl, fun hle => ?_, by (repeat' (first | (with_reducible exact Below.refl _ _) | (with_reducible assumption) | (with_reducible refine below_drewN ?_ _) | (with_reducible refine Below.drew ?_) | (with_reducible refine below_alloc ?_ _) | (with_reducible refine Below.alloc ?_ ?_ _) | (with_reducible refine Below.setCell ?_ ?_ _) | (with_reducible refine below_go ?_ (by with_reducible assumption)) | (with_reducible refine below_then (by with_reducible assumption) ?_ ?_) | go_size)), HQR.out⟩
  obtain ⟨e1, L, ho, hp, hs⟩ := HY.out hle
  refine ⟨e1, L, set4_fin L2 (((ho.up hb5).up hb6).base_le ?_) (by decide) _ _ _ _, hp, hs⟩
  have := C2.size; have := hB1.size; simp; omega
end Go.Proofs.Ytmdmnjjlpefigaa
