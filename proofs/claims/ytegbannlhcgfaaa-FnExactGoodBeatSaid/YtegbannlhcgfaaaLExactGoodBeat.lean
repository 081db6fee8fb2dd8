/- For all arguments FnExactGoodBeat answers true and every argument reads afterwards as it did. No condition. -/
import Derived.Test.YtegbannlhcgfaaaFrame
import Derived.Test.YtegbannlhcgfaaaW21
namespace Go.Proofs.Ytegbannlhcgfaaa
open Go.ChangeShapes Go.WideShapes Go.ChangeAt Go.RowKit Go.Deep Go.Joins
open Go.ChangeMaps (open_string)
namespace LExactGoodBeat
theorem cellslaws_Beat : Try.prog.cellsOf 23 = 3 := by kernel_rfl
set_option maxRecDepth 100000 in
theorem lifted (os : Os) (started : os.Started) (H : Type) (enc : TypeId × Value → H) :
    ReturnsInHanded {} Try.checked os 3 .any (Rows.fnExactGoodBeatSpec.pre6 enc Try.prog Try.f3 Rows.fnExactGoodBeatRow.domain false) (Rows.fnExactGoodBeatSpec.post enc Try.prog Try.f3 false true false false) := by
  refine returnsInHanded_of_change (C := Try.checked) Try.own started (by kernel_rfl) Try.func3
    (ChangeSpec.witness6 (enc := enc) (C := Try.checked) false ⟨#[], #[.agg #[.int .i64 0, .int .i64 0, .int .i64 0]], []⟩ 8 (by kernel_rfl) (by kernel_rfl) (by kernel_rfl) (by kernel_rfl)) ?_
  intro W base args ds gs before hval0 hW _ _
  have hval : ∀ (j : Nat) t v, Try.f3.params[j]? = some t → args[j]? = some v → Value.okWide Try.prog W .any base t v := hval0
  have hW' := hW
  obtain ⟨p, q, hA0, hV, rfl, _, _⟩ := hW
  have hA : DataW.TrodAll enc Try.prog W 0 (fun _ => true) true Try.f3.params.toList args.toList ds p := hA0
  rw [Try.params3] at hA hval
  obtain ⟨v0, vs0, d0, ds0, p0, q0, hargs, rfl, rfl, h0, r0⟩ := trodAll_cons hA
  obtain ⟨rfl, rfl, rfl⟩ := trodAll_nil r0
  obtain rfl : args = #[v0] := by cases args; simp_all
  obtain ⟨c0_0, c0_1, c0_2, y0_0, y0_1, y0_2, m0, ev0_, _, _, g0_0, g0_1, g0_2⟩ := open_agg3 Try.underlying23 (by kernel_rfl) cellslaws_Beat (hval 0 23 v0 rfl rfl) h0
  subst ev0_
  obtain ⟨x1, ex1, _, wx1⟩ := DataW.trod_int Try.underlying3 g0_0
  simp only [List.cons.injEq, and_true] at ex1
  subst ex1
  obtain ⟨x2, ex2, _, wx2⟩ := DataW.trod_int Try.underlying3 g0_1
  simp only [List.cons.injEq, and_true] at ex2
  subst ex2
  obtain ⟨x3, ex3, _, wx3⟩ := DataW.trod_int Try.underlying3 g0_2
  simp only [List.cons.injEq, and_true] at ex3
  subst ex3
  refine (law_GoodBeat x1 x2 x3 W (bounds_i64 wx1) (bounds_i64 wx2) (bounds_i64 wx3)).mono fun e W' ⟨he, hb⟩ => ?_
  subst he
  refine ⟨_, rfl, law_post Try.laidOut hW' rfl rfl Try.underlying4 ?_ ?_ hb⟩
  · rw [Try.params3]
    intro t ht
    simp only [List.mem_cons, List.not_mem_nil, or_false] at ht
    rcases ht with rfl
    all_goals exact ⟨by kernel_rfl, of_decide_eq_true (by kernel_rfl)⟩
  · intro ds' hds'
    rw [Try.params3] at hds'
    match ds', hds' with
    | [z0], _ => rfl
theorem holds : Rows.FnExactGoodBeatSaid :=
  OpenClaim.holds_of_wide 3 Try.f3 rfl rfl rfl rfl rfl rfl rfl ⟨rfl, rfl, rfl, rfl, rfl⟩ rfl rfl rfl rfl rfl (by kernel_rfl) Try.func3 (by kernel_rfl)
    (of_decide_eq_true (by kernel_rfl)) (by unfold Func.isWrapper; first | (rw [if_pos (by decide +kernel)]; kernel_rfl) | (rw [if_neg (by decide +kernel)]; exact ⟨rfl, rfl⟩))
    (fun os started H enc _ => lifted os started H enc)
end LExactGoodBeat
end Go.Proofs.Ytegbannlhcgfaaa

