/- For all arguments FnExactSameProof answers true and every argument reads afterwards as it did. No condition. -/
import Derived.Test.YtcpfcgcdahhnjaaFrame
import Derived.Test.YtcpfcgcdahhnjaaKExactSameProof
namespace Go.Proofs.Ytcpfcgcdahhnjaa
set_option linter.unusedVariables false
set_option linter.unusedSimpArgs false
open Go.ChangeShapes Go.WideShapes Go.ChangeAt Go.RowKit Go.Deep Go.Joins
open Go.ChangeMaps (open_string)
namespace LExactSameProof
theorem cellslaws_Proof : Try.prog.cellsOf 79 = 2 := by kernel_rfl
theorem cellsstring : Try.prog.cellsOf 9 = 1 := by kernel_rfl
set_option maxRecDepth 100000 in
theorem lifted (os : Os) (started : os.Started) (H : Type) (enc : TypeId × Value → H) :
    ReturnsInHanded {} Try.checked os 11 .any (Rows.fnExactSameProofSpec.pre6 enc Try.prog Try.f11 Rows.fnExactSameProofRow.domain false) (Rows.fnExactSameProofSpec.post enc Try.prog Try.f11 false true false false) := by
  refine returnsInHanded_of_change (C := Try.checked) Try.own started (by kernel_rfl) Try.func11
    (ChangeSpec.witness6 (enc := enc) (C := Try.checked) false ⟨#[], #[.agg #[.slice none 0 0, .slice none 0 0], .agg #[.slice none 0 0, .slice none 0 0]], []⟩ 8 (by kernel_rfl) (by kernel_rfl) (by kernel_rfl) (by kernel_rfl)) ?_
  intro W base args ds gs before hval0 hW _ _
  have hval : ∀ (j : Nat) t v, Try.f11.params[j]? = some t → args[j]? = some v → Value.okWide Try.prog W .any base t v := hval0
  have hW' := hW
  obtain ⟨p, q, hA0, hV, rfl, _, _⟩ := hW
  have hA : DataW.TrodAll enc Try.prog W 0 (fun _ => true) true Try.f11.params.toList args.toList ds p := hA0
  rw [Try.params11] at hA hval
  obtain ⟨v0, vs0, d0, ds0, p0, q0, hargs, rfl, rfl, h0, r0⟩ := trodAll_cons hA
  obtain ⟨v1, vs1, d1, ds1, p1, q1, rfl, rfl, rfl, h1, r1⟩ := trodAll_cons r0
  obtain ⟨rfl, rfl, rfl⟩ := trodAll_nil r1
  obtain rfl : args = #[v0, v1] := by cases args; simp_all
  obtain ⟨c0_0, c0_1, y0_0, y0_1, m0, ev0_, _, _, g0_0, g0_1⟩ := open_agg2 Try.underlying79 (by kernel_rfl) cellslaws_Proof (hval 0 79 v0 rfl rfl) h0
  subst ev0_
  obtain ⟨A1, c1, l1, ev1, hc1, hm1, hl1, hb1⟩ := in_strs Try.underlying60 Try.underlying9 cellsstring g0_0
  simp only [List.cons.injEq, and_true] at ev1
  subst ev1
  obtain ⟨A2, c2, l2, ev2, hc2, hm2, hl2, hb2⟩ := in_line g0_1
  simp only [List.cons.injEq, and_true] at ev2
  subst ev2
  obtain ⟨c1_0, c1_1, y1_0, y1_1, m1, ev1_, _, _, g1_0, g1_1⟩ := open_agg2 Try.underlying79 (by kernel_rfl) cellslaws_Proof (hval 1 79 v1 rfl rfl) h1
  subst ev1_
  obtain ⟨A3, c3, l3, ev3, hc3, hm3, hl3, hb3⟩ := in_strs Try.underlying60 Try.underlying9 cellsstring g1_0
  simp only [List.cons.injEq, and_true] at ev3
  subst ev3
  obtain ⟨A4, c4, l4, ev4, hc4, hm4, hl4, hb4⟩ := in_line g1_1
  simp only [List.cons.injEq, and_true] at ev4
  subst ev4
  refine (law_SameProof A1 c1 l1 A2 c2 l2 A3 c3 l3 A4 c4 l4 W hl1 (lenOk hc1 hm1) hb1 hl2 (lenOk hc2 hm2) hb2 hl3 (lenOk hc3 hm3) hb3 hl4 (lenOk hc4 hm4) hb4).mono fun e W' ⟨he, hb⟩ => ?_
  subst he
  refine ⟨_, rfl, law_post Try.laidOut hW' rfl rfl Try.underlying4 ?_ ?_ hb⟩
  · rw [Try.params11]
    intro t ht
    simp only [List.mem_cons, List.not_mem_nil, or_false] at ht
    rcases ht with rfl | rfl
    all_goals exact ⟨by kernel_rfl, of_decide_eq_true (by kernel_rfl)⟩
  · intro ds' hds'
    rw [Try.params11] at hds'
    match ds', hds' with
    | [z0, z1], _ => rfl
theorem holds : Rows.FnExactSameProofSaid :=
  OpenClaim.holds_of_wide 11 Try.f11 rfl rfl rfl rfl rfl rfl rfl ⟨rfl, rfl, rfl, rfl, rfl⟩ rfl rfl rfl rfl rfl (by kernel_rfl) Try.func11 (by kernel_rfl)
    (of_decide_eq_true (by kernel_rfl)) (by unfold Func.isWrapper; first | (rw [if_pos (by decide +kernel)]; kernel_rfl) | (rw [if_neg (by decide +kernel)]; exact ⟨rfl, rfl⟩))
    (fun os started H enc _ => lifted os started H enc)
end LExactSameProof
end Go.Proofs.Ytcpfcgcdahhnjaa

