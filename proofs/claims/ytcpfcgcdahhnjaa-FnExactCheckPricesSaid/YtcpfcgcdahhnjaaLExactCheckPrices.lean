/- For all arguments FnExactCheckPrices answers true and every argument reads afterwards as it did. No condition. -/
import Derived.Test.YtcpfcgcdahhnjaaFrame2
import Derived.Test.YtcpfcgcdahhnjaaKExactCheckPrices
namespace Go.Proofs.Ytcpfcgcdahhnjaa
set_option linter.unusedVariables false
set_option linter.unusedSimpArgs false
open Go.ChangeShapes Go.WideShapes Go.ChangeAt Go.RowKit Go.Deep Go.Joins
open Go.ChangeMaps (open_string)
namespace LExactCheckPrices
theorem cellsint : Try.prog.cellsOf 3 = 1 := by kernel_rfl
theorem cellslaws_Match : Try.prog.cellsOf 53 = 2 := by kernel_rfl
set_option maxRecDepth 100000 in
theorem lifted (os : Os) (started : os.Started) (H : Type) (enc : TypeId × Value → H) :
    ReturnsInHanded {} Try.checked os 7 .any (Rows.fnExactCheckPricesSpec.pre6 enc Try.prog Try.f7 Rows.fnExactCheckPricesRow.domain false) (Rows.fnExactCheckPricesSpec.post enc Try.prog Try.f7 false true false false) := by
  refine returnsInHanded_of_change (C := Try.checked) Try.own started (by kernel_rfl) Try.func7
    (ChangeSpec.witness6 (enc := enc) (C := Try.checked) false ⟨#[], #[.slice none 0 0, .slice none 0 0, .int .i64 0, .slice none 0 0, .agg #[.slice none 0 0, .int .i64 0]], []⟩ 8 (by kernel_rfl) (by kernel_rfl) (by kernel_rfl) (by kernel_rfl)) ?_
  intro W base args ds gs before hval0 hW _ _
  have hval : ∀ (j : Nat) t v, Try.f7.params[j]? = some t → args[j]? = some v → Value.okWide Try.prog W .any base t v := hval0
  have hW' := hW
  obtain ⟨p, q, hA0, hV, rfl, _, _⟩ := hW
  have hA : DataW.TrodAll enc Try.prog W 0 (fun _ => true) true Try.f7.params.toList args.toList ds p := hA0
  rw [Try.params7] at hA hval
  obtain ⟨v0, vs0, d0, ds0, p0, q0, hargs, rfl, rfl, h0, r0⟩ := trodAll_cons hA
  obtain ⟨v1, vs1, d1, ds1, p1, q1, rfl, rfl, rfl, h1, r1⟩ := trodAll_cons r0
  obtain ⟨v2, vs2, d2, ds2, p2, q2, rfl, rfl, rfl, h2, r2⟩ := trodAll_cons r1
  obtain ⟨v3, vs3, d3, ds3, p3, q3, rfl, rfl, rfl, h3, r3⟩ := trodAll_cons r2
  obtain ⟨v4, vs4, d4, ds4, p4, q4, rfl, rfl, rfl, h4, r4⟩ := trodAll_cons r3
  obtain ⟨rfl, rfl, rfl⟩ := trodAll_nil r4
  obtain rfl : args = #[v0, v1, v2, v3, v4] := by cases args; simp_all
  obtain ⟨a0_, n0_, b0_, ev0_⟩ := okWide_slice Try.underlying26 (hval 0 26 v0 rfl rfl)
  subst ev0_
  obtain ⟨fu0, g0⟩ := h0
  have g0' : DataW.trod enc Try.prog W 0 (fun _ => true) true fu0 26 [Value.slice a0_ n0_ b0_] = some (d0, p0) := by simpa [Value.cells] using g0
  obtain ⟨A1, c1, l1, ev1, hc1, hm1, hl1, hb1⟩ := cell_ints Try.underlying26 Try.underlying3 cellsint g0'
  have ew0 : Value.slice a0_ n0_ b0_ = Value.slice A1 l1.length c1 := by simpa using ev1
  clear ev1
  injection ew0 with e1 e2 e3
  subst e2
  have e1 := e1.symm
  have e3 := e3.symm
  subst e1 e3
  obtain ⟨a1_, n1_, b1_, ev1_⟩ := okWide_slice Try.underlying26 (hval 1 26 v1 rfl rfl)
  subst ev1_
  obtain ⟨fu1, g1⟩ := h1
  have g1' : DataW.trod enc Try.prog W 0 (fun _ => true) true fu1 26 [Value.slice a1_ n1_ b1_] = some (d1, p1) := by simpa [Value.cells] using g1
  obtain ⟨A2, c2, l2, ev2, hc2, hm2, hl2, hb2⟩ := cell_ints Try.underlying26 Try.underlying3 cellsint g1'
  have ew1 : Value.slice a1_ n1_ b1_ = Value.slice A2 l2.length c2 := by simpa using ev2
  clear ev2
  injection ew1 with e1 e2 e3
  subst e2
  have e1 := e1.symm
  have e3 := e3.symm
  subst e1 e3
  obtain ⟨x3, rfl, rfl, rfl, wx3⟩ := open_int Try.underlying3 (hval 2 3 v2 rfl rfl) h2
  obtain ⟨a3_, n3_, b3_, ev3_⟩ := okWide_slice Try.underlying40 (hval 3 40 v3 rfl rfl)
  subst ev3_
  obtain ⟨fu3, g3⟩ := h3
  have g3' : DataW.trod enc Try.prog W 0 (fun _ => true) true fu3 40 [Value.slice a3_ n3_ b3_] = some (d3, p3) := by simpa [Value.cells] using g3
  obtain ⟨A4, c4, vs4, l4, ev4, hc4, hm4, hl4, hb4⟩ := in_introws g3'
  have ew3 : Value.slice a3_ n3_ b3_ = Value.slice A4 l4.length c4 := by simpa using ev4
  clear ev4
  injection ew3 with e1 e2 e3
  subst e2
  have e1 := e1.symm
  have e3 := e3.symm
  subst e1 e3
  obtain ⟨c4_0, c4_1, y4_0, y4_1, m4, ev4_, _, _, g4_0, g4_1⟩ := open_agg2 Try.underlying53 (by kernel_rfl) cellslaws_Match (hval 4 53 v4 rfl rfl) h4
  subst ev4_
  obtain ⟨A5, c5, l5, ev5, hc5, hm5, hl5, hb5⟩ := cell_ints Try.underlying26 Try.underlying3 cellsint g4_0
  subst ev5
  obtain ⟨x6, ex6, _, wx6⟩ := DataW.trod_int Try.underlying3 g4_1
  simp only [List.cons.injEq, and_true] at ex6
  subst ex6
  refine (law_CheckPrices A1 c1 l1 A2 c2 l2 x3 A4 c4 vs4 l4 A5 c5 l5 x6 W hl1 (lenOk hc1 hm1) hb1 hl2 (lenOk hc2 hm2) hb2 (bounds_i64 wx3) hl4 (lenOk hc4 hm4) hb4 hl5 (lenOk hc5 hm5) hb5 (bounds_i64 wx6)).mono fun e W' ⟨he, hb⟩ => ?_
  subst he
  refine ⟨_, rfl, law_post Try.laidOut hW' rfl rfl Try.underlying4 ?_ ?_ hb⟩
  · rw [Try.params7]
    intro t ht
    simp only [List.mem_cons, List.not_mem_nil, or_false] at ht
    rcases ht with rfl | rfl | rfl | rfl | rfl
    all_goals exact ⟨by kernel_rfl, of_decide_eq_true (by kernel_rfl)⟩
  · intro ds' hds'
    rw [Try.params7] at hds'
    match ds', hds' with
    | [z0, z1, z2, z3, z4], _ => rfl
theorem holds : Rows.FnExactCheckPricesSaid :=
  OpenClaim.holds_of_wide 7 Try.f7 rfl rfl rfl rfl rfl rfl rfl ⟨rfl, rfl, rfl, rfl, rfl⟩ rfl rfl rfl rfl rfl (by kernel_rfl) Try.func7 (by kernel_rfl)
    (of_decide_eq_true (by kernel_rfl)) (by unfold Func.isWrapper; first | (rw [if_pos (by decide +kernel)]; kernel_rfl) | (rw [if_neg (by decide +kernel)]; exact ⟨rfl, rfl⟩))
    (fun os started H enc _ => lifted os started H enc)
end LExactCheckPrices
end Go.Proofs.Ytcpfcgcdahhnjaa

