/- The walks through changes: which are good, which places stay, which swap. -/
import Derived.Test.YtmdmnjjlpefigaaW0
import Derived.Test.YtmdmnjjlpefigaaElems
import Derived.Test.YtmdmnjjlpefigaaMore
import Derived.Test.YtmdmnjjlpefigaaP02
namespace Go.Proofs.Ytmdmnjjlpefigaa
set_option linter.unusedVariables false
set_option linter.unusedSimpArgs false
open Go.ChangeShapes Go.WideShapes Go.ChangeAt Go.RowKit Go.Deep
theorem spec_l2Stays {c : ByteArray} {p : Int} {w : World} (hz : c.size ≤ 16777216) (hp : I64 p) :
    Calls Try.prog 119 #[.string c, .int .i64 p] w fun e w' => e = .returned (.bool (stays c p)) ∧ w = w' := by
  have hb := PlainAid.get_bt c
  go_in
  go_wp2
  go_loopw [5] (fun i wr => ∃ k : Nat, k ≤ c.size ∧ i = .int .i64 k ∧ Hid (stays c p = ((digs c).drop k).contains p) ∧ w = wr) (fun i _ => c.size - (intOf i).toNat)
  case atStart => exact ⟨0, Nat.zero_le _, rfl, Lib.hid rfl, rfl⟩
  case round =>
    obtain ⟨k, hk, rfl, HK, rfl⟩ := hrel
    by_cases hlt : k < c.size
    · have hw := wrap_bt c k
      have hw2 := wrap_dg c k
      have HD := Lib.hid (digs_drop hlt)
      rcases he : (dg c k == p)
      · have he' := Lib.hid he
        go_wp2
        go_roundw
        case rel =>
          refine ⟨k + 1, by omega, by go_num, Lib.hid ?_, trivial⟩
          rw [HK.out, HD.out, List.contains_cons, show (p == dg c k) = false by rw [← he'.out]; exact Bool.beq_comm ..]
          rfl
        case measure => simp [intOf]; omega
      · have he' := Lib.hid he
        go_wp2
        go_ret
        refine ⟨ret_bool ?_, rfl⟩
        rw [HK.out, HD.out, List.contains_cons, show (p == dg c k) = true by rw [← he'.out]; exact Bool.beq_comm ..]
        rfl
    · obtain rfl : k = c.size := by omega
      have e0 : stays c p = false := by rw [HK.out, List.drop_eq_nil_of_le (by rw [digs_len]; omega)]; rfl
      go_wp2
      go_ret
      exact ⟨ret_bool e0.symm, rfl⟩
theorem spec_l2Change {c : ByteArray} {n : Int} {w : World} (hz : c.size ≤ 16777216) (hn : I64 n) :
    Calls Try.prog 111 #[.int .i64 n, .string c] w fun e w' => e = .returned (.bool (goodChange n c)) ∧ w = w' := by
  have hb := PlainAid.get_bt c
  rcases h1 : inB n 3 8
  · have e0 := Lib.hid (goodChange_stage (c := c) h1)
    go_in
    go_wp2_with (first | (go_at_call 70; refine (spec_l1In _ _ _ _).mono ?_; rintro e w' ⟨rfl, rfl⟩))
    go_ret
    exact ⟨ret_bool e0.out.symm, rfl⟩
  have hn3 := inB_t h1
  have H1 := Lib.hid h1
  rcases h2 : sizeOk n c
  · have e0 := Lib.hid (goodChange_size h2)
    have h3 := sizeOk_f h2
    by_cases h4 : 0 < c.size
    · obtain ⟨he1, he2⟩ := some_bytes h4
      have h5 := h3 h4
      go_in
      go_wp2_with (first | (go_at_call 70; refine (spec_l1In _ _ _ _).mono ?_; rintro e w' ⟨rfl, rfl⟩))
      go_ret
      exact ⟨ret_bool e0.out.symm, rfl⟩
    · obtain ⟨he1, he2⟩ := no_bytes h4
      go_in
      go_wp2_with (first | (go_at_call 70; refine (spec_l1In _ _ _ _).mono ?_; rintro e w' ⟨rfl, rfl⟩))
      go_ret
      exact ⟨ret_bool e0.out.symm, rfl⟩
  obtain ⟨h4, h5⟩ := sizeOk_t h2
  obtain ⟨he1, he2⟩ := some_bytes h4
  rcases h6 : isDash c
  · have e0 := Lib.hid (goodChange_chain h1 h2 h6)
    have h7 : (c.toList == [45]) = false := h6
    go_in
    go_wp2_with (first | (go_at_call 70; refine (spec_l1In _ _ _ _).mono ?_; rintro e w' ⟨rfl, rfl⟩))
    go_loopw [5, 6] (fun v i wr => ∃ (k : Nat) (x : Int), k ≤ c.size ∧ i = .int .i64 k ∧ v = .int .i64 x ∧ 0 ≤ x ∧ x ≤ n ∧ Hid (goodChange n c = chain n x ((digs c).drop k)) ∧ w = wr) (fun _ i _ => c.size - (intOf i).toNat)
    case atStart => exact ⟨0, 0, Nat.zero_le _, rfl, rfl, by omega, by omega, Lib.hid e0.out, rfl⟩
    case round =>
      obtain ⟨k, x, hk, rfl, rfl, hx0, hxn, HK, rfl⟩ := hrel
      by_cases hlt : k < c.size
      · have hw := wrap_bt c k
        have hw2 := wrap_dg c k
        have HD := Lib.hid (digs_drop hlt)
        have hdg := dg_in c k
        rcases hin : inB (dg c k) (x + 1) n
        · have e1 := Lib.hid (show goodChange n c = false by rw [HK.out, HD.out, chain, stepOk, hin]; rfl)
          have hin' := Lib.hid hin
          go_wp2_with (first | (go_at_call 70; refine (spec_l1In _ _ _ _).mono ?_; rintro e w' ⟨rfl, rfl⟩))
          go_ret
          exact ⟨ret_bool e1.out.symm, rfl⟩
        have hin1 := inB_t hin
        rcases hq : ((dg c k - x) % 2 == 0)
        · have e1 := Lib.hid (show goodChange n c = chain n (dg c k) ((digs c).drop (k + 1)) by rw [HK.out, HD.out, chain, stepOk, hin, hq]; rfl)
          go_wp2_with (first | (go_at_call 70; refine (spec_l1In _ _ _ _).mono ?_; rintro e w' ⟨rfl, rfl⟩))
          go_roundw
          case rel => exact ⟨k + 1, dg c k, by omega, by go_num, rfl, by omega, by omega, e1, trivial⟩
          case measure => simp [intOf]; omega
        · have e1 := Lib.hid (show goodChange n c = false by rw [HK.out, HD.out, chain, stepOk, hin, hq]; rfl)
          go_wp2_with (first | (go_at_call 70; refine (spec_l1In _ _ _ _).mono ?_; rintro e w' ⟨rfl, rfl⟩))
          go_ret
          exact ⟨ret_bool e1.out.symm, rfl⟩
      · obtain rfl : k = c.size := by omega
        have e1 := Lib.hid (show goodChange n c = ((n - x) % 2 == 0) by rw [HK.out, List.drop_eq_nil_of_le (by rw [digs_len]; omega), chain])
        go_wp2
        go_ret
        exact ⟨ret_bool e1.out.symm, rfl⟩
  · have e0 := Lib.hid (goodChange_dash h1 h2 h6)
    have h7 : (c.toList == [45]) = true := h6
    go_in
    go_wp2_with (first | (go_at_call 70; refine (spec_l1In _ _ _ _).mono ?_; rintro e w' ⟨rfl, rfl⟩))
    go_ret
    exact ⟨ret_bool e0.out.symm, rfl⟩
end Go.Proofs.Ytmdmnjjlpefigaa
