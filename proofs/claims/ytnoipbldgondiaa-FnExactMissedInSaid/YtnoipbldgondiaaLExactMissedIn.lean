/- For all arguments FnExactMissedIn answers true and every argument reads afterwards as it did. No condition. -/
import Derived.Test.YtnoipbldgondiaaFrame
import Derived.Test.YtnoipbldgondiaaKExactMissedIn
namespace Go.Proofs.Ytnoipbldgondiaa
set_option linter.unusedVariables false
set_option linter.unusedSimpArgs false
open Go.ChangeShapes Go.WideShapes Go.ChangeAt Go.RowKit Go.Deep Go.Joins
open Go.ChangeMaps (open_string)
namespace LExactMissedIn
theorem cellslaws_Match : Try.prog.cellsOf 33 = 2 := by kernel_rfl
theorem cellsint : Try.prog.cellsOf 3 = 1 := by kernel_rfl
set_option maxRecDepth 100000 in
theorem lifted (os : Os) (started : os.Started) (H : Type) (enc : TypeId × Value → H) :
    ReturnsInHanded {} Try.checked os 4 .any (Rows.fnExactMissedInSpec.pre6 enc Try.prog Try.f4 Rows.fnExactMissedInRow.domain false) (Rows.fnExactMissedInSpec.post enc Try.prog Try.f4 false true false false) := by
  refine returnsInHanded_of_change (C := Try.checked) Try.own started (by kernel_rfl) Try.func4
    (ChangeSpec.witness6 (enc := enc) (C := Try.checked) false ⟨#[], #[.agg #[.slice none 0 0, .int .i64 0]], []⟩ 8 (by kernel_rfl) (by kernel_rfl) (by kernel_rfl) (by kernel_rfl)) ?_
  intro W base args ds gs before hval0 hW _ _
  have hval : ∀ (j : Nat) t v, Try.f4.params[j]? = some t → args[j]? = some v → Value.okWide Try.prog W .any base t v := hval0
  have hW' := hW
  obtain ⟨p, q, hA0, hV, rfl, _, _⟩ := hW
  have hA : DataW.TrodAll enc Try.prog W 0 (fun _ => true) true Try.f4.params.toList args.toList ds p := hA0
  rw [Try.params4] at hA hval
  obtain ⟨v0, vs0, d0, ds0, p0, q0, hargs, rfl, rfl, h0, r0⟩ := trodAll_cons hA
  obtain ⟨rfl, rfl, rfl⟩ := trodAll_nil r0
  obtain rfl : args = #[v0] := by cases args; simp_all
  obtain ⟨c0_0, c0_1, y0_0, y0_1, m0, ev0_, _, _, g0_0, g0_1⟩ := open_agg2 Try.underlying33 (by kernel_rfl) cellslaws_Match (hval 0 33 v0 rfl rfl) h0
  subst ev0_
  obtain ⟨A1, c1, l1, ev1, hc1, hm1, hl1, hb1⟩ := cell_ints Try.underlying31 Try.underlying3 cellsint g0_0
  subst ev1
  obtain ⟨x2, ex2, _, wx2⟩ := DataW.trod_int Try.underlying3 g0_1
  simp only [List.cons.injEq, and_true] at ex2
  subst ex2
  refine (law_MissedIn A1 c1 l1 x2 W hl1 (lenOk hc1 hm1) hb1 (bounds_i64 wx2)).mono fun e W' ⟨he, hb⟩ => ?_
  subst he
  refine ⟨_, rfl, law_post Try.laidOut hW' rfl rfl Try.underlying4 ?_ ?_ hb⟩
  · rw [Try.params4]
    intro t ht
    simp only [List.mem_cons, List.not_mem_nil, or_false] at ht
    rcases ht with rfl
    all_goals exact ⟨by kernel_rfl, of_decide_eq_true (by kernel_rfl)⟩
  · intro ds' hds'
    rw [Try.params4] at hds'
    match ds', hds' with
    | [z0], _ => rfl
theorem holds : Rows.FnExactMissedInSaid :=
  OpenClaim.holds_of_wide 4 Try.f4 rfl rfl rfl rfl rfl rfl rfl ⟨rfl, rfl, rfl, rfl, rfl⟩ rfl rfl rfl rfl rfl (by kernel_rfl) Try.func4 (by kernel_rfl)
    (of_decide_eq_true (by kernel_rfl)) (by unfold Func.isWrapper; first | (rw [if_pos (by decide +kernel)]; kernel_rfl) | (rw [if_neg (by decide +kernel)]; exact ⟨rfl, rfl⟩))
    (fun os started H enc _ => lifted os started H enc)
end LExactMissedIn
end Go.Proofs.Ytnoipbldgondiaa

