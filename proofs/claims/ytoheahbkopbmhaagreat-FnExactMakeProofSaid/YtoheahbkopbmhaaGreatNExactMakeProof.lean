/- For all arguments FnExactMakeProof answers true and every argument reads afterwards as it did. No condition. -/
import Derived.Test.YtoheahbkopbmhaaGreatMExactMakeProof4
namespace Go.Proofs.YtoheahbkopbmhaaGreat
set_option linter.unusedVariables false
set_option linter.unusedSimpArgs false
open Go.ChangeShapes Go.WideShapes Go.ChangeAt Go.RowKit Go.Deep Go.Joins
open Go.ChangeMaps (open_string)
namespace LExactMakeProof
theorem cellslaws_Method : Tryz.prog.cellsOf 24 = 3 := by kernel_rfl
theorem cellsstring : Tryz.prog.cellsOf 9 = 1 := by kernel_rfl
theorem cellslaws_Calls : Tryz.prog.cellsOf 26 = 2 := by kernel_rfl
set_option maxRecDepth 100000 in
theorem lifted (os : Os) (started : os.Started) (H : Type) (enc : TypeId × Value → H) :
    ReturnsInHanded {} Tryz.checked os 3 .any (Rows.fnExactMakeProofSpec.pre6 enc Tryz.prog Tryz.f3 Rows.fnExactMakeProofRow.domain false) (Rows.fnExactMakeProofSpec.post enc Tryz.prog Tryz.f3 false true false false) := by
  refine returnsInHanded_of_change (C := Tryz.checked) Tryz.own started (by kernel_rfl) Tryz.func3
    (ChangeSpec.witness6 (enc := enc) (C := Tryz.checked) false ⟨#[], #[.agg #[.string .empty, .int .i64 0, .slice none 0 0], .agg #[.string .empty, .string .empty], .string .empty], []⟩ 8 (by kernel_rfl) (by kernel_rfl) (by kernel_rfl) (by kernel_rfl)) ?_
  intro W base args ds gs before hval0 hW _ _
  have hval : ∀ (j : Nat) t v, Tryz.f3.params[j]? = some t → args[j]? = some v → Value.okWide Tryz.prog W .any base t v := hval0
  have hW' := hW
  obtain ⟨p, q, hA0, hV, rfl, _, _⟩ := hW
  have hA : DataW.TrodAll enc Tryz.prog W 0 (fun _ => true) true Tryz.f3.params.toList args.toList ds p := hA0
  rw [Tryz.params3] at hA hval
  obtain ⟨v0, vs0, d0, ds0, p0, q0, hargs, rfl, rfl, h0, r0⟩ := trodAll_cons hA
  obtain ⟨v1, vs1, d1, ds1, p1, q1, rfl, rfl, rfl, h1, r1⟩ := trodAll_cons r0
  obtain ⟨v2, vs2, d2, ds2, p2, q2, rfl, rfl, rfl, h2, r2⟩ := trodAll_cons r1
  obtain ⟨rfl, rfl, rfl⟩ := trodAll_nil r2
  obtain rfl : args = #[v0, v1, v2] := by cases args; simp_all
  obtain ⟨c0_0, c0_1, c0_2, y0_0, y0_1, y0_2, m0, ev0_, _, _, g0_0, g0_1, g0_2⟩ := open_agg3 Tryz.underlying24 (by kernel_rfl) cellslaws_Method (hval 0 24 v0 rfl rfl) h0
  subst ev0_
  obtain ⟨s1, es1, hs1⟩ := cell_str Tryz.underlying9 g0_0
  subst es1
  obtain ⟨x2, ex2, _, wx2⟩ := DataW.trod_int Tryz.underlying3 g0_1
  simp only [List.cons.injEq, and_true] at ex2
  subst ex2
  obtain ⟨A3, c3, l3, ev3, hc3, hm3, hl3, hb3⟩ := in_strs Tryz.underlying22 Tryz.underlying9 cellsstring g0_2
  simp only [List.cons.injEq, and_true] at ev3
  subst ev3
  obtain ⟨c1_0, c1_1, y1_0, y1_1, m1, ev1_, _, _, g1_0, g1_1⟩ := open_agg2 Tryz.underlying26 (by kernel_rfl) cellslaws_Calls (hval 1 26 v1 rfl rfl) h1
  subst ev1_
  obtain ⟨s4, es4, hs4⟩ := cell_str Tryz.underlying9 g1_0
  subst es4
  obtain ⟨s5, es5, hs5⟩ := cell_str Tryz.underlying9 g1_1
  subst es5
  obtain ⟨s6, rfl, rfl, rfl, hs6⟩ := open_string Tryz.underlying9 (hval 2 9 v2 rfl rfl) h2
  refine (law_MakeProof s1 x2 A3 c3 l3 s4 s5 s6 W hs1 (bounds_i64 wx2) hl3 (lenOk hc3 hm3) hb3 hs4 hs5 hs6).mono fun e W' ⟨he, hb⟩ => ?_
  subst he
  refine ⟨_, rfl, law_post Tryz.laidOut hW' rfl rfl Tryz.underlying4 ?_ ?_ hb⟩
  · rw [Tryz.params3]
    intro t ht
    simp only [List.mem_cons, List.not_mem_nil, or_false] at ht
    rcases ht with rfl | rfl | rfl
    all_goals exact ⟨by kernel_rfl, of_decide_eq_true (by kernel_rfl)⟩
  · intro ds' hds'
    rw [Tryz.params3] at hds'
    match ds', hds' with
    | [z0, z1, z2], _ => rfl
theorem holds : Rows.FnExactMakeProofSaid :=
  OpenClaim.holds_of_wide 3 Tryz.f3 rfl rfl rfl rfl rfl rfl rfl ⟨rfl, rfl, rfl, rfl, rfl⟩ rfl rfl rfl rfl rfl (by kernel_rfl) Tryz.func3 (by kernel_rfl)
    (of_decide_eq_true (by kernel_rfl)) (by unfold Func.isWrapper; first | (rw [if_pos (by decide +kernel)]; kernel_rfl) | (rw [if_neg (by decide +kernel)]; exact ⟨rfl, rfl⟩))
    (fun os started H enc _ => lifted os started H enc)
end LExactMakeProof
end Go.Proofs.YtoheahbkopbmhaaGreat

