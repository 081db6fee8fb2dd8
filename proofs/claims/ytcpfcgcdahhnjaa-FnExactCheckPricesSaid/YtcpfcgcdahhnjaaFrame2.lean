/- Tables of numbers among the arguments. -/
import Derived.Test.YtcpfcgcdahhnjaaFrame
import Derived.Test.YtcpfcgcdahhnjaaTab
namespace Go.Proofs.Ytcpfcgcdahhnjaa
set_option linter.unusedVariables false
set_option linter.unusedSimpArgs false
open Go.ChangeShapes Go.WideShapes Go.ChangeAt Go.RowKit Go.Deep Go.Joins
section
variable {H : Type} {enc : TypeId × Value → H}
theorem in_introws {W : World} {n : Nat} {v : Value} {y : DataW H × List MemPlace} (h : DataW.trod enc Try.prog W 0 (fun _ => true) true n 40 [v] = some y) :
    ∃ (A : Option Addr) (c : Nat) (vs : List Hd) (T : List (List Int)), [v] = [.slice A T.length c] ∧ T.length ≤ c ∧ c ≤ maxLen ∧ TabR vs W A T ∧ ∀ r ∈ T, r.length ≤ maxLen := by
  have hC : Try.prog.cellsOf 26 = 1 := by kernel_rfl
  have hc : Try.prog.cellsOf 3 = 1 := by kernel_rfl
  rcases open_slice Try.underlying40 h with ⟨hcs, hx⟩ | ⟨a, len, cap, m, n', D, Pl, hcs, hb, hl, hm, hmm, hx, hi⟩
  · exact ⟨none, 0, [], [], hcs, Nat.le_refl _, Nat.zero_le _, ⟨rfl, ⟨slcE_len, Rd.none_ _ _ _⟩, fun k v r hv _ => by simp at hv⟩, fun x hx => by cases hx⟩
  · simp only [if_true] at hmm
    have hrec := recs_of (α := Hd × List Int) (e := fun p => slcE p.1) (s := 1) (fun _ => rfl) (by omega) (W := W) (a := a) (len := len) (Q := fun p => p.1.2.1 = p.2.length ∧ Ints W p.1.1 p.2 ∧ p.2.length ≤ maxLen) (fun i hil => by
      obtain ⟨cs', hcc, ht'⟩ := hi i (by omega)
      rw [hC] at hcc
      obtain ⟨_, hcl, hat⟩ := World.cells?_some hcc
      obtain ⟨u, rfl⟩ : ∃ u, cs' = [u] := by
        match cs', hcl with
        | [u], _ => exact ⟨u, rfl⟩
      obtain ⟨A, c, l, rfl, hlc, hcm, hI, _⟩ := cell_ints Try.underlying26 Try.underlying3 hc ht'
      refine ⟨((A, l.length, c), l), ⟨rfl, hI, Nat.le_trans hlc hcm⟩, fun j w hw => ?_⟩
      have h0 := hat 0 (by omega)
      match j, hw with
      | 0, hw =>
        simp only [slcE, List.getElem?_cons_zero] at hw h0
        rw [← hw, ← h0, ← Go.Deep.add_add])
    obtain ⟨l, hll, hR, hQ⟩ := hrec
    refine ⟨some a, cap, l.map Prod.fst, l.map Prod.snd, by rw [List.length_map, hll]; exact hcs, by rw [List.length_map, hll]; exact hl, hm, ⟨by simp, ?_, fun k v r hv hr => ?_⟩, fun r hr => ?_⟩
    · refine ⟨slcE_len, ?_⟩
      have := hR.2
      rw [List.length_map, List.flatMap_map]
      exact this
    · rw [List.getElem?_map] at hv hr
      obtain ⟨p, hp, rfl⟩ := Option.map_eq_some_iff.1 hv
      rw [hp] at hr
      injection hr with hr
      subst hr
      exact ⟨(hQ p (List.mem_of_getElem? hp)).1, (hQ p (List.mem_of_getElem? hp)).2.1⟩
    · obtain ⟨p, hp, rfl⟩ := List.mem_map.1 hr
      exact (hQ p hp).2.2
end
end Go.Proofs.Ytcpfcgcdahhnjaa
