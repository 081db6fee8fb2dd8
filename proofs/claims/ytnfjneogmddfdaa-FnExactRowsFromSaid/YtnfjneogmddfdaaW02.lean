/- The walks through changes: which are good, which places stay, which swap. -/
import Derived.Test.YtnfjneogmddfdaaW0
import Derived.Test.YtnfjneogmddfdaaElems
import Derived.Test.YtnfjneogmddfdaaMore
import Derived.Test.YtnfjneogmddfdaaP02
namespace Go.Proofs.Ytnfjneogmddfdaa
set_option linter.unusedVariables false
set_option linter.unusedSimpArgs false
open Go.ChangeShapes Go.WideShapes Go.ChangeAt Go.RowKit Go.Deep
theorem spec_l2Stays {c : ByteArray} {p : Int} {w : World} (hz : c.size ≤ 16777216) (hp : I64 p) :
    Calls Try.prog 82 #[.string c, .int .i64 p] w fun e w' => e = .returned (.bool (stays c p)) ∧ w = w' := by
  have hb := PlainAid.get_bt c
  go_in
  go_wp2
  go_loopw [5] (fun i wr => ∃ k : Nat, k ≤ c.size ∧ i = .int .i64 k ∧ Hid (stays c p = ((digs c).drop k).contains p) ∧ w = wr) (fun i _ => c.size - (intOf i).toNat)
  case atStart => exact ⟨0, Nat.zero_le _, rfl, Lib.hid rfl, rfl⟩
  case round =>
    obtain ⟨k, hk, rfl, HK, rfl⟩ := hrel
    by_cases hlt : k < c.size
    · have hw := wrap_bt c k
      have hw2 := wrap_dg c k
      have HD := Lib.hid (digs_drop hlt)
      rcases he : (dg c k == p)
      · have he' := Lib.hid he
        go_wp2
        go_roundw
        case rel =>
          refine ⟨k + 1, by omega, by go_num, Lib.hid ?_, trivial⟩
          rw [HK.out, HD.out, List.contains_cons, show (p == dg c k) = false by rw [← he'.out]; exact Bool.beq_comm ..]
          rfl
        case measure => simp [intOf]; omega
      · have he' := Lib.hid he
        go_wp2
        go_ret
        refine ⟨ret_bool ?_, rfl⟩
        rw [HK.out, HD.out, List.contains_cons, show (p == dg c k) = true by rw [← he'.out]; exact Bool.beq_comm ..]
        rfl
    · obtain rfl : k = c.size := by omega
      have e0 : stays c p = false := by rw [HK.out, List.drop_eq_nil_of_le (by rw [digs_len]; omega)]; rfl
      go_wp2
      go_ret
      exact ⟨ret_bool e0.symm, rfl⟩
theorem spec_l2Change {c : ByteArray} {n : Int} {w : World} (hz : c.size ≤ 16777216) (hn : I64 n) :
    Calls Try.prog 41 #[.int .i64 n, .string c] w fun e w' => e = .returned (.bool (goodChange n c)) ∧ w = w' := by
  have hb := PlainAid.get_bt c
  rcases h1 : inB n 3 8
  · have e0 := Lib.hid (goodChange_stage (c := c) h1)
    go_in
    go_wp2_with (first | (go_at_call 52; refine (spec_l1In _ _ _ _).mono ?_; rintro e w' ⟨rfl, rfl⟩))
    go_ret
    exact ⟨ret_bool e0.out.symm, rfl⟩
  have hn3 := inB_t h1
  have H1 := Lib.hid h1
  rcases h2 : sizeOk n c
  · have e0 := Lib.hid (goodChange_size h2)
    have h3 := sizeOk_f h2
    by_cases h4 : 0 < c.size
    · obtain ⟨he1, he2⟩ := some_bytes h4
      have h5 := h3 h4
      go_in
      go_wp2_with (first | (go_at_call 52; refine (spec_l1In _ _ _ _).mono ?_; rintro e w' ⟨rfl, rfl⟩))
      go_ret
      exact ⟨ret_bool e0.out.symm, rfl⟩
    · obtain ⟨he1, he2⟩ := no_bytes h4
      go_in
      go_wp2_with (first | (go_at_call 52; refine (spec_l1In _ _ _ _).mono ?_; rintro e w' ⟨rfl, rfl⟩))
      go_ret
      exact ⟨ret_bool e0.out.symm, rfl⟩
  obtain ⟨h4, h5⟩ := sizeOk_t h2
  obtain ⟨he1, he2⟩ := some_bytes h4
  rcases h6 : isDash c
  · have e0 := Lib.hid (goodChange_chain h1 h2 h6)
    have h7 : (c.toList == [45]) = false := h6
    go_in
    go_wp2_with (first | (go_at_call 52; refine (spec_l1In _ _ _ _).mono ?_; rintro e w' ⟨rfl, rfl⟩))
    go_loopw [5, 6] (fun v i wr => ∃ (k : Nat) (x : Int), k ≤ c.size ∧ i = .int .i64 k ∧ v = .int .i64 x ∧ 0 ≤ x ∧ x ≤ n ∧ Hid (goodChange n c = chain n x ((digs c).drop k)) ∧ w = wr) (fun _ i _ => c.size - (intOf i).toNat)
    case atStart => exact ⟨0, 0, Nat.zero_le _, rfl, rfl, by omega, by omega, Lib.hid e0.out, rfl⟩
    case round =>
      obtain ⟨k, x, hk, rfl, rfl, hx0, hxn, HK, rfl⟩ := hrel
      by_cases hlt : k < c.size
      · have hw := wrap_bt c k
        have hw2 := wrap_dg c k
        have HD := Lib.hid (digs_drop hlt)
        have hdg := dg_in c k
        rcases hin : inB (dg c k) (x + 1) n
        · have e1 := Lib.hid (show goodChange n c = false by rw [HK.out, HD.out, chain, stepOk, hin]; rfl)
          have hin' := Lib.hid hin
          go_wp2_with (first | (go_at_call 52; refine (spec_l1In _ _ _ _).mono ?_; rintro e w' ⟨rfl, rfl⟩))
          go_ret
          exact ⟨ret_bool e1.out.symm, rfl⟩
        have hin1 := inB_t hin
        rcases hq : ((dg c k - x) % 2 == 0)
        · have e1 := Lib.hid (show goodChange n c = chain n (dg c k) ((digs c).drop (k + 1)) by rw [HK.out, HD.out, chain, stepOk, hin, hq]; rfl)
          go_wp2_with (first | (go_at_call 52; refine (spec_l1In _ _ _ _).mono ?_; rintro e w' ⟨rfl, rfl⟩))
          go_roundw
          case rel => exact ⟨k + 1, dg c k, by omega, by go_num, rfl, by omega, by omega, e1, trivial⟩
          case measure => simp [intOf]; omega
        · have e1 := Lib.hid (show goodChange n c = false by rw [HK.out, HD.out, chain, stepOk, hin, hq]; rfl)
          go_wp2_with (first | (go_at_call 52; refine (spec_l1In _ _ _ _).mono ?_; rintro e w' ⟨rfl, rfl⟩))
          go_ret
          exact ⟨ret_bool e1.out.symm, rfl⟩
      · obtain rfl : k = c.size := by omega
        have e1 := Lib.hid (show goodChange n c = ((n - x) % 2 == 0) by rw [HK.out, List.drop_eq_nil_of_le (by rw [digs_len]; omega), chain])
        go_wp2
        go_ret
        exact ⟨ret_bool e1.out.symm, rfl⟩
  · have e0 := Lib.hid (goodChange_dash h1 h2 h6)
    have h7 : (c.toList == [45]) = true := h6
    go_in
    go_wp2_with (first | (go_at_call 52; refine (spec_l1In _ _ _ _).mono ?_; rintro e w' ⟨rfl, rfl⟩))
    go_ret
    exact ⟨ret_bool e0.out.symm, rfl⟩
set_option maxRecDepth 100000 in
theorem spec_l2Swaps {c : ByteArray} {n : Nat} {w : World} (hz : c.size ≤ 16777216) (hn : n ≤ 8) :
    Calls Try.prog 42 #[.int .i64 n, .string c] w fun e w' => ∃ A' c', e = .returned (.slice A' (swaps n c).length c') ∧
      Owned intE 1 3 w' w.heap.size A' (swaps n c).length c' (swaps n c) ∧ Below w.heap.size w w' := by
  go_in
  go_wp2
  go_loopw [5, 6] (fun v i wr => ∃ (k : Nat) (A' : Option Addr) (m c' : Nat) (l : List Int), k ≤ n + 1 ∧ i = .int .i64 (k + 1 : Nat) ∧ v = .slice A' m c' ∧ Hid (swaps n c = l ++ sws (stays c) n (k + 1)) ∧ m ≤ k ∧ Owned intE 1 3 wr w.heap.size A' m c' l ∧ Below w.heap.size w wr) (fun _ i _ => n + 2 - (intOf i).toNat)
  case atStart => exact ⟨0, none, 0, 0, [], by omega, rfl, rfl, Lib.hid rfl, by omega, Owned.nil intE_len _ _ _, by (repeat' (first | (with_reducible exact Below.refl _ _) | (with_reducible assumption) | (with_reducible refine below_drewN ?_ _) | (with_reducible refine Below.drew ?_) | (with_reducible refine below_alloc ?_ _) | (with_reducible refine Below.alloc ?_ ?_ _) | (with_reducible refine Below.setCell ?_ ?_ _) | (with_reducible refine below_go ?_ (by with_reducible assumption)) | (with_reducible refine below_then (by with_reducible assumption) ?_ ?_) | go_size))⟩
  case round =>
    obtain ⟨k, A', m, c', l, hk, rfl, rfl, HK, hmk, ho, hb⟩ := hrel
    have HO := Lib.hid ho
    have hsz := hb.size
    clear ho
    by_cases hlt : k + 1 < n
    · have hI : I64 ((k : Int) + 1) := by unfold I64; omega
      rcases hs : stays c ((k : Int) + 1)
      · have e1 := Lib.hid (sws_swap hlt hs)
        go_wp2_with (first | (go_at_call 82; refine (spec_l2Stays hz hI).mono ?_; rintro e w' ⟨rfl, rfl⟩) | (at_builtin; go_must ((refine wpList_append_rec Try.elInt rfl (.tmp 16) (.tmp 18) rfl rfl (HO.out.alloc _) ((k : Int) + 1) rfl (Box.at_ _ [.int .i64 ((k : Int) + 1)] _ ?_) (intE_one _) ?_ (by decide) ?_ ?_; (focus (first | omega | (simp only [World.size_alloc]; done) | (simp only [World.size_alloc]; omega) | (simp; done) | (simp; omega))); (focus (first | omega | (simp only [World.size_alloc]; done) | (simp only [World.size_alloc]; omega) | (simp; done) | (simp; omega))); (focus (first | omega | (simp only [World.size_alloc]; done) | (simp only [World.size_alloc]; omega) | (simp; done) | (simp; omega))); intro A2 c2 w2 ho2 hg2 hb2))))
        go_roundw
        case rel => exact ⟨k + 2, A2, m + 1, c2, l ++ [((k + 1 : Nat) : Int)], by omega, by go_num, by go_num, Lib.hid (by rw [HK.out, e1.out, List.append_assoc]; rfl), by omega, ho2, (hb.alloc hsz _).trans hb2⟩
        case measure => simp [intOf]; omega
      · have e1 := Lib.hid (sws_stay hlt hs)
        go_wp2_with (first | (go_at_call 82; refine (spec_l2Stays hz hI).mono ?_; rintro e w' ⟨rfl, rfl⟩))
        go_roundw
        case rel => exact ⟨k + 1, A', m, c', l, by omega, by go_num, rfl, Lib.hid (by rw [HK.out, e1.out]), by omega, HO.out, by (repeat' (first | (with_reducible exact Below.refl _ _) | (with_reducible assumption) | (with_reducible refine below_drewN ?_ _) | (with_reducible refine Below.drew ?_) | (with_reducible refine below_alloc ?_ _) | (with_reducible refine Below.alloc ?_ ?_ _) | (with_reducible refine Below.setCell ?_ ?_ _) | (with_reducible refine below_go ?_ (by with_reducible assumption)) | (with_reducible refine below_then (by with_reducible assumption) ?_ ?_) | go_size))⟩
        case measure => simp [intOf]; omega
    · have e1 := Lib.hid (show swaps n c = l by rw [HK.out, sws_end hlt, List.append_nil])
      have hl := HO.out.len
      go_wp2
      go_ret
      rw [e1.out, hl]
      exact ⟨_, _, rfl, HO.out, hb⟩
end Go.Proofs.Ytnfjneogmddfdaa
