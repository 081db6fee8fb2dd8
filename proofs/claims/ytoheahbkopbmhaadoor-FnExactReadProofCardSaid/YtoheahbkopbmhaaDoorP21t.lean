/- The text of strikes: plain. -/
import Derived.Test.YtoheahbkopbmhaaDoorP21
import Derived.Test.YtoheahbkopbmhaaDoorDec
namespace Go.Proofs.YtoheahbkopbmhaaDoor
set_option linter.unusedVariables false
set_option linter.unusedSimpArgs false
open Go.ChangeShapes Go.WideShapes Go.ChangeAt Go.RowKit Go.Deep
def sxS (x : Int × Int) : ByteArray := ((decS x.1.toNat ++ ⟨#[64]⟩) ++ decS x.2.toNat) ++ ⟨#[10]⟩
def stK (L : List (Int × Int)) (k : Nat) : ByteArray := (L.take k).foldl (fun s x => s ++ sxS x) ⟨#[]⟩
theorem stK_0 (L : List (Int × Int)) : stK L 0 = ⟨#[]⟩ := rfl
theorem stK_succ {L : List (Int × Int)} {k : Nat} {x : Int × Int} (hx : L[k]? = some x) : stK L (k + 1) = stK L k ++ sxS x := by
  rw [stK, take_succ_some hx, List.foldl_append]; rfl
theorem sxS_size {x : Int × Int} (h1 : x.1.toNat ≤ 1000) (h2 : x.2.toNat ≤ 1000000) : (sxS x).size ≤ 28 := by
  have d1 := dec_small (n := x.1.toNat) (by omega)
  have d2 := dec_small (n := x.2.toNat) (by omega)
  have e1 : (⟨#[64]⟩ : ByteArray).size = 1 := rfl
  have e3 : (⟨#[10]⟩ : ByteArray).size = 1 := rfl
  simp only [sxS, ByteArray.size_append]
  omega
theorem stK_size {L : List (Int × Int)} (hL : ∀ x ∈ L, (1 ≤ x.1 ∧ x.1 ≤ 8) ∧ 0 ≤ x.2 ∧ x.2 ≤ 1000000) : ∀ k, k ≤ L.length → (stK L k).size ≤ 28 * k
  | 0, _ => by rw [stK_0]; exact Nat.le_refl _
  | k + 1, h => by
    have ih := stK_size hL k (by omega)
    obtain ⟨x, hx⟩ := some_of_lt (l := L) (k := k) (by omega)
    have hb := hL x (List.mem_of_getElem? hx)
    have := sxS_size (x := x) (by omega) (by omega)
    rw [stK_succ hx, ByteArray.size_append]
    omega
def stR (L : List (Int × Int)) : ByteArray := if goodStrikes L = true then stK L L.length else ⟨#[]⟩
theorem stR_f {L : List (Int × Int)} (h : goodStrikes L = false) : stR L = ⟨#[]⟩ := if_neg (by rw [h]; simp)
theorem stR_t {L : List (Int × Int)} (h : goodStrikes L = true) : stR L = stK L L.length := if_pos h
end Go.Proofs.YtoheahbkopbmhaaDoor
