/- The frame of a law over bytes: a slice of bytes that comes in, opened into plain words. -/
import Derived.Test.YtdnbdnfoogjcmaaFrame
import Derived.Test.YtdnbdnfoogjcmaaBytes
namespace Go.Proofs.Ytdnbdnfoogjcmaa
set_option linter.unusedVariables false
set_option linter.unusedSimpArgs false
open Go.ChangeShapes Go.WideShapes Go.ChangeAt Go.RowKit Go.Deep Go.Joins
section
variable {H : Type} {enc : TypeId × Value → H} {P : Program}
theorem bounds_u8' {n : Int} (h : (Lit.int .u8 n).wf = true) : 0 ≤ n ∧ n ≤ 255 := bounds_u8 h
/-- A slice of bytes that came in. -/
theorem in_bytes {W : World} {t e : TypeId} (ht : P.underlying t = some (.slice e)) (he : P.underlying e = some (.int .u8)) (hc : P.cellsOf e = 1) {n : Nat} {cs : List Value} {d : DataW H} {p : List MemPlace}
    (hf : DataW.trod enc P W 0 (fun _ => true) true n t cs = some (d, p)) :
    ∃ (A : Option Addr) (c : Nat) (l : List Int), cs = [.slice A l.length c] ∧ l.length ≤ c ∧ c ≤ maxLen ∧ Recs byteE 1 W A l ∧ ∀ x ∈ l, 0 ≤ x ∧ x ≤ 255 := by
  rcases open_ints ht he hc hf with ⟨hcs, hx⟩ | ⟨a, len, cap, zs, hcs, _, hl, hm, hz, hx, hcell, hwz⟩
  · exact ⟨none, 0, [], hcs, Nat.le_refl _, Nat.zero_le _, ⟨byteE_len, Rd.none_ _ _ _⟩, fun x hx => by cases hx⟩
  · simp only [if_true] at hz
    have hlt : (zs.take len).length = len := by simp; omega
    refine ⟨some a, cap, zs.take len, by rw [hlt]; exact hcs, by omega, hm, ⟨byteE_len, ?_, fun hn => ?_⟩, fun x hx => bounds_u8' (hwz x (List.mem_of_mem_take hx))⟩
    · rw [flatMap_len byteE_len]
    · obtain ⟨b, off, rfl, hc'⟩ := ints_at hcell (by omega)
      refine ⟨b, off, rfl, World.block_lt_of_cell? W _ (hc' 0 (by omega)), fun j u hu => ?_⟩
      have hj : j < len := by
        have := (List.getElem?_eq_some_iff.1 hu).1
        rw [flatMap_len byteE_len] at this
        omega
      have hx : zs[j]? = some (zs.getD j 0) := by
        rw [List.getD_eq_getElem?_getD, List.getElem?_eq_getElem (by omega)]; rfl
      have h1 := flatMap_at byteE_len (zs.take len) j (zs.getD j 0) 0 (by rw [List.getElem?_take, if_pos hj]; exact hx) (by omega)
      simp only [Nat.mul_one, Nat.add_zero] at h1
      rw [h1] at hu
      injection hu with hu
      rw [← hu]
      exact hc' j (by omega)
end
end Go.Proofs.Ytdnbdnfoogjcmaa
