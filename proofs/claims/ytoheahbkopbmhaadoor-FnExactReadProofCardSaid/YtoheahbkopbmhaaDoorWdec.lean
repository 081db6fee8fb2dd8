/- The program's decimal text of a number. -/
import Derived.Test.YtoheahbkopbmhaaDoorShelf
import Derived.Test.YtoheahbkopbmhaaDoorDec
import Derived.Lib.AppendIntMem
namespace Go.Proofs.YtoheahbkopbmhaaDoor
set_option linter.unusedVariables false
set_option linter.unusedSimpArgs false
open Go.ChangeShapes Go.WideShapes Go.ChangeAt Go.RowKit Go.Deep
theorem impl_decimal_s {i : Nat} {w : World} (hi : i < 100) :
    Calls Tryd.prog 34 #[.int .i64 (i : Int)] w fun e w' => e = .returned (.string (decS i)) ∧ w = w' := by
  go_in
  go_wp2_with (first | (go_at_call 42; refine (Tryd.strconv_Itoa_small i hi _).mono ?_; rintro e w' ⟨rfl, rfl⟩))
  go_ret
  exact ⟨rfl, rfl⟩
theorem impl_decimal_1 {x : Int} {w : World} (h0 : 0 ≤ x) (h9 : x ≤ 9) :
    Calls Tryd.prog 34 #[.int .i64 x] w fun e w' => e = .returned (.string (dig1 x)) ∧ Below w.heap.size w w' := by
  obtain ⟨i, rfl⟩ := Int.eq_ofNat_of_zero_le h0
  refine (impl_decimal_s (i := i) (by omega)).mono ?_
  rintro e w' ⟨rfl, rfl⟩
  exact ⟨by rw [decS_small (by omega)], Below.refl _ _⟩
theorem impl_decimal {n : Nat} {w : World} (hn : n ≤ 1000000000000) (htab : Lib.TabIs Tryd.prog w "internal/strconv.uint64pow10" .u64 Lib.pow10Tab) :
    Calls Tryd.prog 34 #[.int .i64 (n : Int)] w fun e w' => e = .returned (.string (decS n)) ∧ Below w.heap.size w w' := by
  have he : (⟨(Lib.itoa (n : Int)).toArray⟩ : ByteArray) = decS n := by rw [Lib.itoa, if_neg (by omega)]; rfl
  go_in
  go_wp2_with (first | (go_at_call 42; refine (Tryd.strconv_Itoa (n : Int) (by omega) (by omega) _ htab).mono ?_; rw [he]; rintro e w' ⟨rfl, k, os, rfl⟩))
  go_ret
  exact ⟨rfl, Lib.below_grow _ _ (Nat.le_refl _) k os⟩
end Go.Proofs.YtoheahbkopbmhaaDoor
