/- For all arguments FnExactExtraIn answers true and every argument reads afterwards as it did. No condition. -/
import Derived.Test.YtnoipbldgondiaaFrame
import Derived.Test.YtnoipbldgondiaaKExactExtraIn
namespace Go.Proofs.Ytnoipbldgondiaa
set_option linter.unusedVariables false
set_option linter.unusedSimpArgs false
open Go.ChangeShapes Go.WideShapes Go.ChangeAt Go.RowKit Go.Deep Go.Joins
open Go.ChangeMaps (open_string)
namespace LExactExtraIn
theorem cellslaws_Match : Try.prog.cellsOf 33 = 2 := by kernel_rfl
theorem cellsint : Try.prog.cellsOf 3 = 1 := by kernel_rfl
set_option maxRecDepth 100000 in
theorem lifted (os : Os) (started : os.Started) (H : Type) (enc : TypeId × Value → H) :
    ReturnsInHanded {} Try.checked os 7 .any (Rows.fnExactExtraInSpec.pre6 enc Try.prog Try.f7 Rows.fnExactExtraInRow.domain false) (Rows.fnExactExtraInSpec.post enc Try.prog Try.f7 false true false false) := by
  refine returnsInHanded_of_change (C := Try.checked) Try.own started (by kernel_rfl) Try.func7
    (ChangeSpec.witness6 (enc := enc) (C := Try.checked) false ⟨#[], #[.int .i64 0, .agg #[.slice none 0 0, .int .i64 0]], []⟩ 8 (by kernel_rfl) (by kernel_rfl) (by kernel_rfl) (by kernel_rfl)) ?_
  intro W base args ds gs before hval0 hW _ _
  have hval : ∀ (j : Nat) t v, Try.f7.params[j]? = some t → args[j]? = some v → Value.okWide Try.prog W .any base t v := hval0
  have hW' := hW
  obtain ⟨p, q, hA0, hV, rfl, _, _⟩ := hW
  have hA : DataW.TrodAll enc Try.prog W 0 (fun _ => true) true Try.f7.params.toList args.toList ds p := hA0
  rw [Try.params7] at hA hval
  obtain ⟨v0, vs0, d0, ds0, p0, q0, hargs, rfl, rfl, h0, r0⟩ := trodAll_cons hA
  obtain ⟨v1, vs1, d1, ds1, p1, q1, rfl, rfl, rfl, h1, r1⟩ := trodAll_cons r0
  obtain ⟨rfl, rfl, rfl⟩ := trodAll_nil r1
  obtain rfl : args = #[v0, v1] := by cases args; simp_all
  obtain ⟨x1, rfl, rfl, rfl, wx1⟩ := open_int Try.underlying3 (hval 0 3 v0 rfl rfl) h0
  obtain ⟨c1_0, c1_1, y1_0, y1_1, m1, ev1_, _, _, g1_0, g1_1⟩ := open_agg2 Try.underlying33 (by kernel_rfl) cellslaws_Match (hval 1 33 v1 rfl rfl) h1
  subst ev1_
  obtain ⟨A2, c2, l2, ev2, hc2, hm2, hl2, hb2⟩ := cell_ints Try.underlying31 Try.underlying3 cellsint g1_0
  subst ev2
  obtain ⟨x3, ex3, _, wx3⟩ := DataW.trod_int Try.underlying3 g1_1
  simp only [List.cons.injEq, and_true] at ex3
  subst ex3
  refine (law_ExtraIn x1 A2 c2 l2 x3 W (bounds_i64 wx1) hl2 (lenOk hc2 hm2) hb2 (bounds_i64 wx3)).mono fun e W' ⟨he, hb⟩ => ?_
  subst he
  refine ⟨_, rfl, law_post Try.laidOut hW' rfl rfl Try.underlying4 ?_ ?_ hb⟩
  · rw [Try.params7]
    intro t ht
    simp only [List.mem_cons, List.not_mem_nil, or_false] at ht
    rcases ht with rfl | rfl
    all_goals exact ⟨by kernel_rfl, of_decide_eq_true (by kernel_rfl)⟩
  · intro ds' hds'
    rw [Try.params7] at hds'
    match ds', hds' with
    | [z0, z1], _ => rfl
theorem holds : Rows.FnExactExtraInSaid :=
  OpenClaim.holds_of_wide 7 Try.f7 rfl rfl rfl rfl rfl rfl rfl ⟨rfl, rfl, rfl, rfl, rfl⟩ rfl rfl rfl rfl rfl (by kernel_rfl) Try.func7 (by kernel_rfl)
    (of_decide_eq_true (by kernel_rfl)) (by unfold Func.isWrapper; first | (rw [if_pos (by decide +kernel)]; kernel_rfl) | (rw [if_neg (by decide +kernel)]; exact ⟨rfl, rfl⟩))
    (fun os started H enc _ => lifted os started H enc)
end LExactExtraIn
end Go.Proofs.Ytnoipbldgondiaa

